/-
  No cell of these rows narrows 'for every input' (looked for: loops, veiled, ifaces, maps, wideKeys, modest, calm, conditions, laid).
  DERIVED. THE GIVEN ROWS OF THIS SEAT. 5 by the template 'for every input the law returns true; each argument reads behind the call as it read before'; 0 by the template 'total and deterministic' (their statements: YtjinnkbnllnllaaTotals.lean).
  GIVEN WITH THE SEED: the statements are not yours to turn. If you find one false, say at which input.
  Laid BY PROGRAM, IN A SANDBOX (cutbox-rows.mjs): the forced cells as the released guide's own fill.sh prints them over the translation 59d51928941f9619… (all of the seat's roots in one cut). By AI agents, Wed Nov 11 2026. No macro, syntax, notation, axiom, sorry.
-/
import Derived.Test.YtjinnkbnllnllaaChecked
import GoSem.Claim
import GoSem.ClaimJoined
import GoSem.ClaimMapViews
import Derived.JoinedTies
import Derived.KernelRfl
namespace Go.Proofs.Ytjinnkbnllnllaa
/- THE CELL 'sum', in the pinned program and in every row, IS THE sha256 OF THE DUMP (.gsa) THAT YtjinnkbnllnllaaProg.lean LOADS. Nothing in Lean hashes anything: it is a label: what it is worth is what the hold of that sum in a sandbox is worth. -/
noncomputable def Try.pinned : Pinned := { name := "ytjinnkbnllnllaa", sum := "59d51928941f9619ab7b0f40a3242c8593b7749ba7d6e49e6049b194bb76b600", checked := Try.checked }
namespace Rows
def none {H : Type} : Left H := { results := [], args := [] }

/-- 'mailsacklaw15.IndexBack': WHATEVER THE INPUT: true; the input reads as it did. -/
def indexBackSpec : ChangeSpec := { name := "indexBack", fn := fun _ => fun
  | [d1, d2, d3, d4, d5] => { results := [.lit (.bool true)], args := [d1, d2, d3, d4, d5] }
  | _ => none }
def indexBackRow : OpenClaim := { program := "ytjinnkbnllnllaa", sum := "59d51928941f9619ab7b0f40a3242c8593b7749ba7d6e49e6049b194bb76b600", func := "mailsack/mailsacklaw15.IndexBack", spec := "indexBack", unfollowed := true, recurses := true, apart := false }
def IndexBackSaid : Prop := indexBackRow.holds Try.pinned (OpenSpec.ofChange indexBackSpec)

/-- ITS FALSE NEIGHBOUR: 'it returns false'. Refute it at one input. -/
def indexBackWrong : ChangeSpec := { name := "indexBack", fn := fun _ => fun
  | [d1, d2, d3, d4, d5] => { results := [.lit (.bool false)], args := [d1, d2, d3, d4, d5] }
  | _ => none }
def IndexBackWrongFalsely : Prop := indexBackRow.holds Try.pinned (OpenSpec.ofChange indexBackWrong)

/-- 'mailsacklaw15.IndexMails': WHATEVER THE INPUT: true; the input reads as it did. -/
def indexMailsSpec : ChangeSpec := { name := "indexMails", fn := fun _ => fun
  | [d1, d2, d3, d4, d5] => { results := [.lit (.bool true)], args := [d1, d2, d3, d4, d5] }
  | _ => none }
def indexMailsRow : OpenClaim := { program := "ytjinnkbnllnllaa", sum := "59d51928941f9619ab7b0f40a3242c8593b7749ba7d6e49e6049b194bb76b600", func := "mailsack/mailsacklaw15.IndexMails", spec := "indexMails", unfollowed := true, recurses := true, apart := false }
def IndexMailsSaid : Prop := indexMailsRow.holds Try.pinned (OpenSpec.ofChange indexMailsSpec)

/-- ITS FALSE NEIGHBOUR: 'it returns false'. Refute it at one input. -/
def indexMailsWrong : ChangeSpec := { name := "indexMails", fn := fun _ => fun
  | [d1, d2, d3, d4, d5] => { results := [.lit (.bool false)], args := [d1, d2, d3, d4, d5] }
  | _ => none }
def IndexMailsWrongFalsely : Prop := indexMailsRow.holds Try.pinned (OpenSpec.ofChange indexMailsWrong)

/-- 'mailsacklaw15.IndexSubs': WHATEVER THE INPUT: true; the input reads as it did. -/
def indexSubsSpec : ChangeSpec := { name := "indexSubs", fn := fun _ => fun
  | [d1, d2] => { results := [.lit (.bool true)], args := [d1, d2] }
  | _ => none }
def indexSubsRow : OpenClaim := { program := "ytjinnkbnllnllaa", sum := "59d51928941f9619ab7b0f40a3242c8593b7749ba7d6e49e6049b194bb76b600", func := "mailsack/mailsacklaw15.IndexSubs", spec := "indexSubs", inPlace := ["slices.overlaps[string]"], unfollowed := true, recurses := true, apart := false }
def IndexSubsSaid : Prop := indexSubsRow.holds Try.pinned (OpenSpec.ofChange indexSubsSpec)

/-- ITS FALSE NEIGHBOUR: 'it returns false'. Refute it at one input. -/
def indexSubsWrong : ChangeSpec := { name := "indexSubs", fn := fun _ => fun
  | [d1, d2] => { results := [.lit (.bool false)], args := [d1, d2] }
  | _ => none }
def IndexSubsWrongFalsely : Prop := indexSubsRow.holds Try.pinned (OpenSpec.ofChange indexSubsWrong)

/-- 'mailsacklaw15.IndexBoxes': WHATEVER THE INPUT: true; the input reads as it did. -/
def indexBoxesSpec : ChangeSpec := { name := "indexBoxes", fn := fun _ => fun
  | [d1, d2, d3, d4] => { results := [.lit (.bool true)], args := [d1, d2, d3, d4] }
  | _ => none }
def indexBoxesRow : OpenClaim := { program := "ytjinnkbnllnllaa", sum := "59d51928941f9619ab7b0f40a3242c8593b7749ba7d6e49e6049b194bb76b600", func := "mailsack/mailsacklaw15.IndexBoxes", spec := "indexBoxes", inPlace := ["slices.overlaps[mailsack/index.Box]", "slices.overlaps[string]"], unfollowed := true, recurses := true, apart := false }
def IndexBoxesSaid : Prop := indexBoxesRow.holds Try.pinned (OpenSpec.ofChange indexBoxesSpec)

/-- ITS FALSE NEIGHBOUR: 'it returns false'. Refute it at one input. -/
def indexBoxesWrong : ChangeSpec := { name := "indexBoxes", fn := fun _ => fun
  | [d1, d2, d3, d4] => { results := [.lit (.bool false)], args := [d1, d2, d3, d4] }
  | _ => none }
def IndexBoxesWrongFalsely : Prop := indexBoxesRow.holds Try.pinned (OpenSpec.ofChange indexBoxesWrong)

/-- 'mailsacklaw15.IndexKeeps': WHATEVER THE INPUT: true; the input reads as it did. -/
def indexKeepsSpec : ChangeSpec := { name := "indexKeeps", fn := fun _ => fun
  | [d] => { results := [.lit (.bool true)], args := [d] }
  | _ => none }
def indexKeepsRow : OpenClaim := { program := "ytjinnkbnllnllaa", sum := "59d51928941f9619ab7b0f40a3242c8593b7749ba7d6e49e6049b194bb76b600", func := "mailsack/mailsacklaw15.IndexKeeps", spec := "indexKeeps", inPlace := ["slices.overlaps[mailsack/index.Box]", "slices.overlaps[string]"], unfollowed := true, recurses := true, apart := false }
def IndexKeepsSaid : Prop := indexKeepsRow.holds Try.pinned (OpenSpec.ofChange indexKeepsSpec)

/-- ITS FALSE NEIGHBOUR: 'it returns false'. Refute it at one input. -/
def indexKeepsWrong : ChangeSpec := { name := "indexKeeps", fn := fun _ => fun
  | [d] => { results := [.lit (.bool false)], args := [d] }
  | _ => none }
def IndexKeepsWrongFalsely : Prop := indexKeepsRow.holds Try.pinned (OpenSpec.ofChange indexKeepsWrong)

/- THE SECOND FORM. 'bulk': how many values and letters a reading holds, each counted each time it is reached (what is shared counts as often as it is met; a slice's spare places count too). A statement '..UptoSaid' is the law's where the arguments, and the package variables that the reading takes, are together of bulk at most 1048576: NARROWER than '..Said'. Prove '..Said' where nothing that the law and all that it calls make is longer than what came in: it says more and counts as full. Else prove '..UptoSaid'. A law counts once. -/
mutual
def uptoBulk {H : Type} : DataW H → Nat
  | .lit (.string bytes) => bytes.length + 1
  | .lit _ => 1
  | .nil => 1
  | .ptr d => uptoBulk d + 1
  | .slice elems spare => uptoBulkAll elems + uptoBulkAll spare + 1
  | .agg parts => uptoBulkAll parts + 1
  | .iface _ d => uptoBulk d + 1
  | .map entries => uptoBulkEntries entries + 1
  | .held _ => 1
def uptoBulkAll {H : Type} : List (DataW H) → Nat
  | [] => 0
  | d :: r => uptoBulk d + uptoBulkAll r
def uptoBulkEntries {H : Type} : List (Lit × DataW H) → Nat
  | [] => 0
  | x :: r => uptoBulkEntry x + uptoBulkEntries r
def uptoBulkEntry {H : Type} : Lit × DataW H → Nat
  | (.string bytes, d) => bytes.length + uptoBulk d + 1
  | (_, d) => uptoBulk d + 1
 end
def uptoSmall : (H : Type) → List (DataW H) → Bool := fun _ ds => decide (uptoBulkAll ds ≤ 1048576)
def OpenSpec.upto (s : _root_.Go.ChangeSpec) : _root_.Go.OpenSpec := { _root_.Go.OpenSpec.ofChange s with cond := some uptoSmall }

/-- 'mailsacklaw15.IndexBack', WHERE WHAT IT READS IS OF BULK AT MOST 1048576: true; the input reads as it did. -/
def indexBackUptoRow : OpenClaim := { program := "ytjinnkbnllnllaa", sum := "59d51928941f9619ab7b0f40a3242c8593b7749ba7d6e49e6049b194bb76b600", func := "mailsack/mailsacklaw15.IndexBack", spec := "indexBack", unfollowed := true, recurses := true, apart := false, narrowed := true }
def IndexBackUptoSaid : Prop := indexBackUptoRow.holds Try.pinned (OpenSpec.upto indexBackSpec)

/-- 'mailsacklaw15.IndexMails', WHERE WHAT IT READS IS OF BULK AT MOST 1048576: true; the input reads as it did. -/
def indexMailsUptoRow : OpenClaim := { program := "ytjinnkbnllnllaa", sum := "59d51928941f9619ab7b0f40a3242c8593b7749ba7d6e49e6049b194bb76b600", func := "mailsack/mailsacklaw15.IndexMails", spec := "indexMails", unfollowed := true, recurses := true, apart := false, narrowed := true }
def IndexMailsUptoSaid : Prop := indexMailsUptoRow.holds Try.pinned (OpenSpec.upto indexMailsSpec)

/-- 'mailsacklaw15.IndexSubs', WHERE WHAT IT READS IS OF BULK AT MOST 1048576: true; the input reads as it did. -/
def indexSubsUptoRow : OpenClaim := { program := "ytjinnkbnllnllaa", sum := "59d51928941f9619ab7b0f40a3242c8593b7749ba7d6e49e6049b194bb76b600", func := "mailsack/mailsacklaw15.IndexSubs", spec := "indexSubs", inPlace := ["slices.overlaps[string]"], unfollowed := true, recurses := true, apart := false, narrowed := true }
def IndexSubsUptoSaid : Prop := indexSubsUptoRow.holds Try.pinned (OpenSpec.upto indexSubsSpec)

/-- 'mailsacklaw15.IndexBoxes', WHERE WHAT IT READS IS OF BULK AT MOST 1048576: true; the input reads as it did. -/
def indexBoxesUptoRow : OpenClaim := { program := "ytjinnkbnllnllaa", sum := "59d51928941f9619ab7b0f40a3242c8593b7749ba7d6e49e6049b194bb76b600", func := "mailsack/mailsacklaw15.IndexBoxes", spec := "indexBoxes", inPlace := ["slices.overlaps[mailsack/index.Box]", "slices.overlaps[string]"], unfollowed := true, recurses := true, apart := false, narrowed := true }
def IndexBoxesUptoSaid : Prop := indexBoxesUptoRow.holds Try.pinned (OpenSpec.upto indexBoxesSpec)

/-- 'mailsacklaw15.IndexKeeps', WHERE WHAT IT READS IS OF BULK AT MOST 1048576: true; the input reads as it did. -/
def indexKeepsUptoRow : OpenClaim := { program := "ytjinnkbnllnllaa", sum := "59d51928941f9619ab7b0f40a3242c8593b7749ba7d6e49e6049b194bb76b600", func := "mailsack/mailsacklaw15.IndexKeeps", spec := "indexKeeps", inPlace := ["slices.overlaps[mailsack/index.Box]", "slices.overlaps[string]"], unfollowed := true, recurses := true, apart := false, narrowed := true }
def IndexKeepsUptoSaid : Prop := indexKeepsUptoRow.holds Try.pinned (OpenSpec.upto indexKeepsSpec)

end Rows
end Go.Proofs.Ytjinnkbnllnllaa
