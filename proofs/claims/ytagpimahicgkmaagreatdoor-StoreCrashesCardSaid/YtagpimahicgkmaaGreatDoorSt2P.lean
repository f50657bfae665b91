/- Plain: what changes do to a name last. -/
import Derived.Test.YtagpimahicgkmaaGreatDoorMh
namespace Go.Proofs.YtagpimahicgkmaaGreatDoor
open Go.RowKit

def chg0 : Chg := ⟨{ data := #[] }, { data := #[] }, false⟩
def lastS (n : ByteArray) (r : Chg × Bool) (c : Chg) : Chg × Bool := if c.name.toList == n.toList then (c, true) else r
def lastL (n : ByteArray) (l : List Chg) : Chg × Bool := l.foldl (lastS n) (chg0, false)
theorem last_succ {n : ByteArray} {l : List Chg} {k : Nat} (h : k < l.length) : lastL n (l.take (k + 1)) = lastS n (lastL n (l.take k)) l[k] := by
  unfold lastL
  rw [List.take_succ_eq_append_getElem h, List.foldl_append]; rfl

end Go.Proofs.YtagpimahicgkmaaGreatDoor
