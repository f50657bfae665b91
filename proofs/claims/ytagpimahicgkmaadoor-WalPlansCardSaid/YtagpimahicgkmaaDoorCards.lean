/-
  DERIVED. GIVEN WITH THE SEED: THE CARDS: each row of YtagpimahicgkmaaDoorRows.lean that lists a variable, with what it lists TIED to the program's text (the seventh form; the later family's looks); each row that meets fmt, with fmt's text TOLD by the authors' own Lean function (tested against real Go, not proved from fmt's source: count such statements apart). THE CARD IS WHAT COUNTS. Prove the row's statement (the work); the ties are given (YtagpimahicgkmaaDoorTie.lean); close each card by the builder's one call (the guide's Derived/Test/ToyasCard.lean, 'card_holds'). Laid BY PROGRAM, IN A SANDBOX (cutbox-door.mjs). By AI agents, Wed Nov 11 2026. No macro, syntax, notation, axiom, sorry.
-/
import Derived.Test.YtagpimahicgkmaaDoorRows
import GoSem.ClaimSeven
namespace Go.Proofs.YtagpimahicgkmaaDoor
namespace Rows

/-- THE TIED CARD OF 'mailsacklaw10.WalCounts'. -/
def walCountsCard : Claim7 := { stood := { row := walCountsRow, standIns := [], harness := (true, "6b5bbda6613fd40ac29b5e6ba315622256691c551782391694d89c519b9af325"), looks := true }, kinds := [], alts := [], laidByText := true, laidKinds := [.data, .data], laidTests := true, laidLooks := .later }
def WalCountsCardSaid : Prop := Claim7.holds Tryd.pinned (.plain (OpenSpec.ofChange walCountsSpec)) walCountsCard

/-- THE TIED CARD OF 'mailsacklaw10.WalPlans'. -/
def walPlansCard : Claim7 := { stood := { row := walPlansRow, standIns := [], harness := (true, "6b5bbda6613fd40ac29b5e6ba315622256691c551782391694d89c519b9af325"), looks := true }, kinds := [], alts := [], laidByText := true, laidKinds := [.data, .data], laidTests := true, laidLooks := .later }
def WalPlansCardSaid : Prop := Claim7.holds Tryd.pinned (.plain (OpenSpec.ofChange walPlansSpec)) walPlansCard

/-- THE TIED CARD OF 'mailsacklaw10.WalDone'. -/
def walDoneCard : Claim7 := { stood := { row := walDoneRow, standIns := [], harness := (true, "6b5bbda6613fd40ac29b5e6ba315622256691c551782391694d89c519b9af325"), looks := true }, kinds := [], alts := [], laidByText := true, laidKinds := [.data, .data], laidTests := true, laidLooks := .later }
def WalDoneCardSaid : Prop := Claim7.holds Tryd.pinned (.plain (OpenSpec.ofChange walDoneSpec)) walDoneCard

/-- THE TIED CARD OF 'mailsacklaw10.WalAtomic'. -/
def walAtomicCard : Claim7 := { stood := { row := walAtomicRow, standIns := [], harness := (true, "6b5bbda6613fd40ac29b5e6ba315622256691c551782391694d89c519b9af325"), looks := true }, kinds := [], alts := [], laidByText := true, laidKinds := [.data, .data], laidTests := true, laidLooks := .later }
def WalAtomicCardSaid : Prop := Claim7.holds Tryd.pinned (.plain (OpenSpec.ofChange walAtomicSpec)) walAtomicCard

/-- THE TIED CARD OF 'mailsacklaw12.StoreDone'. -/
def storeDoneCard : Claim7 := { stood := { row := storeDoneRow, standIns := [], harness := (true, "6b5bbda6613fd40ac29b5e6ba315622256691c551782391694d89c519b9af325"), looks := true }, kinds := [], alts := [], laidByText := true, laidKinds := [.data, .data], laidTests := true, laidLooks := .later }
def StoreDoneCardSaid : Prop := Claim7.holds Tryd.pinned (.plain (OpenSpec.ofChange storeDoneSpec)) storeDoneCard

/-- THE TIED CARD OF 'mailsacklaw12.StoreSizes'. -/
def storeSizesCard : Claim7 := { stood := { row := storeSizesRow, standIns := [], harness := (true, "6b5bbda6613fd40ac29b5e6ba315622256691c551782391694d89c519b9af325"), looks := true }, kinds := [], alts := [], laidByText := true, laidKinds := [.data, .data], laidTests := true, laidLooks := .later }
def StoreSizesCardSaid : Prop := Claim7.holds Tryd.pinned (.plain (OpenSpec.ofChange storeSizesSpec)) storeSizesCard

/-- THE TIED CARD OF 'mailsacklaw12.StoreNames'. -/
def storeNamesCard : Claim7 := { stood := { row := storeNamesRow, standIns := [], harness := (true, "6b5bbda6613fd40ac29b5e6ba315622256691c551782391694d89c519b9af325"), looks := true }, kinds := [], alts := [], laidByText := true, laidKinds := [.data, .data], laidTests := true, laidLooks := .later }
def StoreNamesCardSaid : Prop := Claim7.holds Tryd.pinned (.plain (OpenSpec.ofChange storeNamesSpec)) storeNamesCard

/-- THE SECOND FORM's CARD OF 'mailsacklaw10.WalCounts'. -/
def walCountsUptoCard : Claim7 := { stood := { row := walCountsUptoRow, standIns := [], harness := (true, "6b5bbda6613fd40ac29b5e6ba315622256691c551782391694d89c519b9af325"), looks := true }, kinds := [], alts := [], laidByText := true, laidKinds := [.data, .data], laidTests := true, laidLooks := .later }
def WalCountsUptoCardSaid : Prop := Claim7.holds Tryd.pinned (.plain (OpenSpec.upto walCountsSpec)) walCountsUptoCard

/-- THE SECOND FORM's CARD OF 'mailsacklaw10.WalPlans'. -/
def walPlansUptoCard : Claim7 := { stood := { row := walPlansUptoRow, standIns := [], harness := (true, "6b5bbda6613fd40ac29b5e6ba315622256691c551782391694d89c519b9af325"), looks := true }, kinds := [], alts := [], laidByText := true, laidKinds := [.data, .data], laidTests := true, laidLooks := .later }
def WalPlansUptoCardSaid : Prop := Claim7.holds Tryd.pinned (.plain (OpenSpec.upto walPlansSpec)) walPlansUptoCard

/-- THE SECOND FORM's CARD OF 'mailsacklaw10.WalDone'. -/
def walDoneUptoCard : Claim7 := { stood := { row := walDoneUptoRow, standIns := [], harness := (true, "6b5bbda6613fd40ac29b5e6ba315622256691c551782391694d89c519b9af325"), looks := true }, kinds := [], alts := [], laidByText := true, laidKinds := [.data, .data], laidTests := true, laidLooks := .later }
def WalDoneUptoCardSaid : Prop := Claim7.holds Tryd.pinned (.plain (OpenSpec.upto walDoneSpec)) walDoneUptoCard

/-- THE SECOND FORM's CARD OF 'mailsacklaw10.WalAtomic'. -/
def walAtomicUptoCard : Claim7 := { stood := { row := walAtomicUptoRow, standIns := [], harness := (true, "6b5bbda6613fd40ac29b5e6ba315622256691c551782391694d89c519b9af325"), looks := true }, kinds := [], alts := [], laidByText := true, laidKinds := [.data, .data], laidTests := true, laidLooks := .later }
def WalAtomicUptoCardSaid : Prop := Claim7.holds Tryd.pinned (.plain (OpenSpec.upto walAtomicSpec)) walAtomicUptoCard

/-- THE SECOND FORM's CARD OF 'mailsacklaw12.StoreDone'. -/
def storeDoneUptoCard : Claim7 := { stood := { row := storeDoneUptoRow, standIns := [], harness := (true, "6b5bbda6613fd40ac29b5e6ba315622256691c551782391694d89c519b9af325"), looks := true }, kinds := [], alts := [], laidByText := true, laidKinds := [.data, .data], laidTests := true, laidLooks := .later }
def StoreDoneUptoCardSaid : Prop := Claim7.holds Tryd.pinned (.plain (OpenSpec.upto storeDoneSpec)) storeDoneUptoCard

/-- THE SECOND FORM's CARD OF 'mailsacklaw12.StoreSizes'. -/
def storeSizesUptoCard : Claim7 := { stood := { row := storeSizesUptoRow, standIns := [], harness := (true, "6b5bbda6613fd40ac29b5e6ba315622256691c551782391694d89c519b9af325"), looks := true }, kinds := [], alts := [], laidByText := true, laidKinds := [.data, .data], laidTests := true, laidLooks := .later }
def StoreSizesUptoCardSaid : Prop := Claim7.holds Tryd.pinned (.plain (OpenSpec.upto storeSizesSpec)) storeSizesUptoCard

/-- THE SECOND FORM's CARD OF 'mailsacklaw12.StoreNames'. -/
def storeNamesUptoCard : Claim7 := { stood := { row := storeNamesUptoRow, standIns := [], harness := (true, "6b5bbda6613fd40ac29b5e6ba315622256691c551782391694d89c519b9af325"), looks := true }, kinds := [], alts := [], laidByText := true, laidKinds := [.data, .data], laidTests := true, laidLooks := .later }
def StoreNamesUptoCardSaid : Prop := Claim7.holds Tryd.pinned (.plain (OpenSpec.upto storeNamesSpec)) storeNamesUptoCard
end Rows
end Go.Proofs.YtagpimahicgkmaaDoor
