/-
  No cell of these rows narrows 'for every input' (looked for: loops, veiled, ifaces, maps, wideKeys, modest, calm, conditions, laid).
  DERIVED. THE GIVEN ROWS OF THIS SEAT. 5 by the template 'for every input the law returns true; each argument reads behind the call as it read before'; 0 by the template 'total and deterministic' (their statements: YtbkipbkkdcikcaaTotals.lean).
  GIVEN WITH THE SEED: the statements are not yours to turn. If you find one false, say at which input.
  Laid BY PROGRAM, IN A SANDBOX (cutbox-rows.mjs): the forced cells as the released guide's own fill.sh prints them over the translation 9b8a3525d7807173… (all of the seat's roots in one cut). By AI agents, Wed Nov 11 2026. No macro, syntax, notation, axiom, sorry.
-/
import Derived.Test.YtbkipbkkdcikcaaChecked
import GoSem.Claim
import GoSem.ClaimJoined
import GoSem.ClaimMapViews
import Derived.JoinedTies
import Derived.KernelRfl
namespace Go.Proofs.Ytbkipbkkdcikcaa
/- THE CELL 'sum', in the pinned program and in every row, IS THE sha256 OF THE DUMP (.gsa) THAT YtbkipbkkdcikcaaProg.lean LOADS. Nothing in Lean hashes anything: it is a label: what it is worth is what the hold of that sum in a sandbox is worth. -/
noncomputable def Try.pinned : Pinned := { name := "ytbkipbkkdcikcaa", sum := "9b8a3525d7807173b2c60d5137d74b4ac0933b1ef8438769322f021a67714c29", checked := Try.checked }
namespace Rows
def none {H : Type} : Left H := { results := [], args := [] }

/-- 'mailsacklaw11.AllocOnce': WHATEVER THE INPUT: true; the input reads as it did. -/
def allocOnceSpec : ChangeSpec := { name := "allocOnce", fn := fun _ => fun
  | [d1, d2] => { results := [.lit (.bool true)], args := [d1, d2] }
  | _ => none }
def allocOnceRow : OpenClaim := { program := "ytbkipbkkdcikcaa", sum := "9b8a3525d7807173b2c60d5137d74b4ac0933b1ef8438769322f021a67714c29", func := "mailsack/mailsacklaw11.AllocOnce", spec := "allocOnce", unfollowed := true, recurses := true, apart := false }
def AllocOnceSaid : Prop := allocOnceRow.holds Try.pinned (OpenSpec.ofChange allocOnceSpec)

/-- ITS FALSE NEIGHBOUR: 'it returns false'. Refute it at one input. -/
def allocOnceWrong : ChangeSpec := { name := "allocOnce", fn := fun _ => fun
  | [d1, d2] => { results := [.lit (.bool false)], args := [d1, d2] }
  | _ => none }
def AllocOnceWrongFalsely : Prop := allocOnceRow.holds Try.pinned (OpenSpec.ofChange allocOnceWrong)

/-- 'mailsacklaw11.AllocPlays': WHATEVER THE INPUT: true; the input reads as it did. -/
def allocPlaysSpec : ChangeSpec := { name := "allocPlays", fn := fun _ => fun
  | [d1, d2, d3] => { results := [.lit (.bool true)], args := [d1, d2, d3] }
  | _ => none }
def allocPlaysRow : OpenClaim := { program := "ytbkipbkkdcikcaa", sum := "9b8a3525d7807173b2c60d5137d74b4ac0933b1ef8438769322f021a67714c29", func := "mailsack/mailsacklaw11.AllocPlays", spec := "allocPlays", unfollowed := true, recurses := true, apart := false }
def AllocPlaysSaid : Prop := allocPlaysRow.holds Try.pinned (OpenSpec.ofChange allocPlaysSpec)

/-- ITS FALSE NEIGHBOUR: 'it returns false'. Refute it at one input. -/
def allocPlaysWrong : ChangeSpec := { name := "allocPlays", fn := fun _ => fun
  | [d1, d2, d3] => { results := [.lit (.bool false)], args := [d1, d2, d3] }
  | _ => none }
def AllocPlaysWrongFalsely : Prop := allocPlaysRow.holds Try.pinned (OpenSpec.ofChange allocPlaysWrong)

/-- 'mailsacklaw11.AllocBack': WHATEVER THE INPUT: true; the input reads as it did. -/
def allocBackSpec : ChangeSpec := { name := "allocBack", fn := fun _ => fun
  | [d1, d2] => { results := [.lit (.bool true)], args := [d1, d2] }
  | _ => none }
def allocBackRow : OpenClaim := { program := "ytbkipbkkdcikcaa", sum := "9b8a3525d7807173b2c60d5137d74b4ac0933b1ef8438769322f021a67714c29", func := "mailsack/mailsacklaw11.AllocBack", spec := "allocBack", unfollowed := true, recurses := true, apart := false }
def AllocBackSaid : Prop := allocBackRow.holds Try.pinned (OpenSpec.ofChange allocBackSpec)

/-- ITS FALSE NEIGHBOUR: 'it returns false'. Refute it at one input. -/
def allocBackWrong : ChangeSpec := { name := "allocBack", fn := fun _ => fun
  | [d1, d2] => { results := [.lit (.bool false)], args := [d1, d2] }
  | _ => none }
def AllocBackWrongFalsely : Prop := allocBackRow.holds Try.pinned (OpenSpec.ofChange allocBackWrong)

/-- 'mailsacklaw11.AllocNone': WHATEVER THE INPUT: true; the input reads as it did. -/
def allocNoneSpec : ChangeSpec := { name := "allocNone", fn := fun _ => fun
  | [d] => { results := [.lit (.bool true)], args := [d] }
  | _ => none }
def allocNoneRow : OpenClaim := { program := "ytbkipbkkdcikcaa", sum := "9b8a3525d7807173b2c60d5137d74b4ac0933b1ef8438769322f021a67714c29", func := "mailsack/mailsacklaw11.AllocNone", spec := "allocNone", unfollowed := true, recurses := true, apart := false }
def AllocNoneSaid : Prop := allocNoneRow.holds Try.pinned (OpenSpec.ofChange allocNoneSpec)

/-- ITS FALSE NEIGHBOUR: 'it returns false'. Refute it at one input. -/
def allocNoneWrong : ChangeSpec := { name := "allocNone", fn := fun _ => fun
  | [d] => { results := [.lit (.bool false)], args := [d] }
  | _ => none }
def AllocNoneWrongFalsely : Prop := allocNoneRow.holds Try.pinned (OpenSpec.ofChange allocNoneWrong)

/-- 'mailsacklaw11.AllocLens': WHATEVER THE INPUT: true; the input reads as it did. -/
def allocLensSpec : ChangeSpec := { name := "allocLens", fn := fun _ => fun
  | [d1, d2] => { results := [.lit (.bool true)], args := [d1, d2] }
  | _ => none }
def allocLensRow : OpenClaim := { program := "ytbkipbkkdcikcaa", sum := "9b8a3525d7807173b2c60d5137d74b4ac0933b1ef8438769322f021a67714c29", func := "mailsack/mailsacklaw11.AllocLens", spec := "allocLens", unfollowed := true, recurses := true, apart := false }
def AllocLensSaid : Prop := allocLensRow.holds Try.pinned (OpenSpec.ofChange allocLensSpec)

/-- ITS FALSE NEIGHBOUR: 'it returns false'. Refute it at one input. -/
def allocLensWrong : ChangeSpec := { name := "allocLens", fn := fun _ => fun
  | [d1, d2] => { results := [.lit (.bool false)], args := [d1, d2] }
  | _ => none }
def AllocLensWrongFalsely : Prop := allocLensRow.holds Try.pinned (OpenSpec.ofChange allocLensWrong)

/- THE SECOND FORM. 'bulk': how many values and letters a reading holds, each counted each time it is reached (what is shared counts as often as it is met; a slice's spare places count too). A statement '..UptoSaid' is the law's where the arguments, and the package variables that the reading takes, are together of bulk at most 1048576: NARROWER than '..Said'. Prove '..Said' where nothing that the law and all that it calls make is longer than what came in: it says more and counts as full. Else prove '..UptoSaid'. A law counts once. -/
mutual
def uptoBulk {H : Type} : DataW H → Nat
  | .lit (.string bytes) => bytes.length + 1
  | .lit _ => 1
  | .nil => 1
  | .ptr d => uptoBulk d + 1
  | .slice elems spare => uptoBulkAll elems + uptoBulkAll spare + 1
  | .agg parts => uptoBulkAll parts + 1
  | .iface _ d => uptoBulk d + 1
  | .map entries => uptoBulkEntries entries + 1
  | .held _ => 1
def uptoBulkAll {H : Type} : List (DataW H) → Nat
  | [] => 0
  | d :: r => uptoBulk d + uptoBulkAll r
def uptoBulkEntries {H : Type} : List (Lit × DataW H) → Nat
  | [] => 0
  | x :: r => uptoBulkEntry x + uptoBulkEntries r
def uptoBulkEntry {H : Type} : Lit × DataW H → Nat
  | (.string bytes, d) => bytes.length + uptoBulk d + 1
  | (_, d) => uptoBulk d + 1
 end
def uptoSmall : (H : Type) → List (DataW H) → Bool := fun _ ds => decide (uptoBulkAll ds ≤ 1048576)
def OpenSpec.upto (s : _root_.Go.ChangeSpec) : _root_.Go.OpenSpec := { _root_.Go.OpenSpec.ofChange s with cond := some uptoSmall }

/-- 'mailsacklaw11.AllocOnce', WHERE WHAT IT READS IS OF BULK AT MOST 1048576: true; the input reads as it did. -/
def allocOnceUptoRow : OpenClaim := { program := "ytbkipbkkdcikcaa", sum := "9b8a3525d7807173b2c60d5137d74b4ac0933b1ef8438769322f021a67714c29", func := "mailsack/mailsacklaw11.AllocOnce", spec := "allocOnce", unfollowed := true, recurses := true, apart := false, narrowed := true }
def AllocOnceUptoSaid : Prop := allocOnceUptoRow.holds Try.pinned (OpenSpec.upto allocOnceSpec)

/-- 'mailsacklaw11.AllocPlays', WHERE WHAT IT READS IS OF BULK AT MOST 1048576: true; the input reads as it did. -/
def allocPlaysUptoRow : OpenClaim := { program := "ytbkipbkkdcikcaa", sum := "9b8a3525d7807173b2c60d5137d74b4ac0933b1ef8438769322f021a67714c29", func := "mailsack/mailsacklaw11.AllocPlays", spec := "allocPlays", unfollowed := true, recurses := true, apart := false, narrowed := true }
def AllocPlaysUptoSaid : Prop := allocPlaysUptoRow.holds Try.pinned (OpenSpec.upto allocPlaysSpec)

/-- 'mailsacklaw11.AllocBack', WHERE WHAT IT READS IS OF BULK AT MOST 1048576: true; the input reads as it did. -/
def allocBackUptoRow : OpenClaim := { program := "ytbkipbkkdcikcaa", sum := "9b8a3525d7807173b2c60d5137d74b4ac0933b1ef8438769322f021a67714c29", func := "mailsack/mailsacklaw11.AllocBack", spec := "allocBack", unfollowed := true, recurses := true, apart := false, narrowed := true }
def AllocBackUptoSaid : Prop := allocBackUptoRow.holds Try.pinned (OpenSpec.upto allocBackSpec)

/-- 'mailsacklaw11.AllocNone', WHERE WHAT IT READS IS OF BULK AT MOST 1048576: true; the input reads as it did. -/
def allocNoneUptoRow : OpenClaim := { program := "ytbkipbkkdcikcaa", sum := "9b8a3525d7807173b2c60d5137d74b4ac0933b1ef8438769322f021a67714c29", func := "mailsack/mailsacklaw11.AllocNone", spec := "allocNone", unfollowed := true, recurses := true, apart := false, narrowed := true }
def AllocNoneUptoSaid : Prop := allocNoneUptoRow.holds Try.pinned (OpenSpec.upto allocNoneSpec)

/-- 'mailsacklaw11.AllocLens', WHERE WHAT IT READS IS OF BULK AT MOST 1048576: true; the input reads as it did. -/
def allocLensUptoRow : OpenClaim := { program := "ytbkipbkkdcikcaa", sum := "9b8a3525d7807173b2c60d5137d74b4ac0933b1ef8438769322f021a67714c29", func := "mailsack/mailsacklaw11.AllocLens", spec := "allocLens", unfollowed := true, recurses := true, apart := false, narrowed := true }
def AllocLensUptoSaid : Prop := allocLensUptoRow.holds Try.pinned (OpenSpec.upto allocLensSpec)

end Rows
end Go.Proofs.Ytbkipbkkdcikcaa
