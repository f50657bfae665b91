/- Walk: index.Right. -/
import Derived.Test.YtjinnkbnllnllaaIxBox
import Derived.Deep.QuietTactic
import Derived.BigQuiet
namespace Go.Proofs.Ytjinnkbnllnllaa
open Go.RowKit

def inbox : ByteArray := ⟨#[73, 78, 66, 79, 88]⟩
theorem inbox_lit : ({ data := #[73, 78, 66, 79, 88] } : ByteArray) = inbox := rfl
def nmEq (a b : ByteArray) : Bool := a.toList == b.toList
def nmLe (a b : ByteArray) : Bool := Op.bytesLess a.toList b.toList || a.toList == b.toList
def bx0 : Bx := ⟨.empty, 0, 0, []⟩
def bxAt (x : Ix) (i : Nat) : Bx := x.boxes.getD i bx0
def subAt (x : Ix) (i : Nat) : ByteArray := x.subs.getD i .empty
def stepB (x : Ix) (i : Nat) : Bool :=
  boxB (bxAt x i) && decide ((bxAt x i).val < x.given) && !(decide (0 < i) && nmEq (bxAt x i).name inbox) && !(decide (1 < i) && nmLe (bxAt x i).name (bxAt x (i - 1)).name)
def subB (x : Ix) (i : Nat) : Bool := nameB (subAt x i) && !(decide (0 < i) && nmLe (subAt x i) (subAt x (i - 1)))
def allTo (f : Nat → Bool) : Nat → Bool
  | 0 => true
  | k + 1 => allTo f k && f k
def totTo (x : Ix) : Nat → Nat
  | 0 => 0
  | k + 1 => totTo x k + (bxAt x k).mails.length
def rightB (x : Ix) : Bool :=
  decide (1 ≤ x.boxes.length) && decide (x.boxes.length ≤ 6) && nmEq (bxAt x 0).name inbox && decide (x.subs.length ≤ 6) && posB x.given && allTo (stepB x) x.boxes.length && allTo (subB x) x.subs.length && decide (totTo x x.boxes.length ≤ 30)

theorem allTo_no {f : Nat → Bool} {k n : Nat} (h : k < n) (hf : f k = false) : allTo f n = false := by
  induction n with
  | zero => omega
  | succ n ih =>
    simp only [allTo]
    by_cases e : k = n
    · subst e; rw [hf, Bool.and_false]
    · rw [ih (by omega), Bool.false_and]
theorem allTo_iff {f : Nat → Bool} {n : Nat} : allTo f n = true ↔ ∀ k, k < n → f k = true := by
  induction n with
  | zero => simp [allTo]
  | succ n ih =>
    simp only [allTo, Bool.and_eq_true, ih]
    constructor
    · rintro ⟨h1, h2⟩ k hk
      by_cases e : k = n
      · subst e; exact h2
      · exact h1 k (by omega)
    · intro h
      exact ⟨fun k hk => h k (by omega), h n (by omega)⟩
theorem box_mails {x : Ix} {k : Nat} (h : stepB x k = true) : (bxAt x k).mails.length ≤ 30 := by
  simp only [stepB, boxB, Bool.and_eq_true, decide_eq_true_eq] at h
  exact h.1.1.1.1.2
theorem totTo_le {x : Ix} : ∀ k, (∀ j, j < k → stepB x j = true) → totTo x k ≤ k * 30
  | 0, _ => by simp [totTo]
  | k + 1, h => by
    have := totTo_le k (fun j hj => h j (by omega))
    have := box_mails (h k (by omega))
    simp only [totTo]; omega
theorem bxAt_lt {x : Ix} {i : Nat} (h : i < x.boxes.length) : bxAt x i = x.boxes[i] := by simp [bxAt, h]
theorem subAt_lt {x : Ix} {i : Nat} (h : i < x.subs.length) : subAt x i = x.subs[i] := by simp [subAt, h]
end Go.Proofs.Ytjinnkbnllnllaa
