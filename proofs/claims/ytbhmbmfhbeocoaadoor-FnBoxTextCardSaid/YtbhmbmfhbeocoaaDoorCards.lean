/-
  DERIVED. GIVEN WITH THE SEED: THE CARDS: each row of YtbhmbmfhbeocoaaDoorRows.lean that lists a variable, with what it lists TIED to the program's text (the seventh form; the later family's looks); each row that meets fmt, with fmt's text TOLD by the authors' own Lean function (tested against real Go, not proved from fmt's source: count such statements apart). THE CARD IS WHAT COUNTS. Prove the row's statement (the work); the ties are given (YtbhmbmfhbeocoaaDoorTie.lean); close each card by the builder's one call (the guide's Derived/Test/ToyasCard.lean, 'card_holds'). Laid BY PROGRAM, IN A SANDBOX (cutbox-door.mjs). By AI agents, Wed Nov 11 2026. No macro, syntax, notation, axiom, sorry.
-/
import Derived.Test.YtbhmbmfhbeocoaaDoorRows
import GoSem.ClaimSeven
namespace Go.Proofs.YtbhmbmfhbeocoaaDoor
namespace Rows

/-- THE TIED CARD OF 'laws.FnExactBoxText'. -/
def fnExactBoxTextCard : Claim7 := { stood := { row := fnExactBoxTextRow, standIns := [], harness := (true, "3eee504b283d7bac9da4535844723dd63523a6b9371b0debcd91ab9df795d4d9"), looks := true }, kinds := [], alts := [], laidByText := true, laidKinds := [.data, .data, .data], laidTests := true, laidLooks := .later }
def FnExactBoxTextCardSaid : Prop := Claim7.holds Tryd.pinned (.plain (OpenSpec.ofChange fnExactBoxTextSpec)) fnExactBoxTextCard

/-- THE TIED CARD OF 'laws.FnExactReadBox'. -/
def fnExactReadBoxCard : Claim7 := { stood := { row := fnExactReadBoxRow, standIns := [], harness := (true, "3eee504b283d7bac9da4535844723dd63523a6b9371b0debcd91ab9df795d4d9"), looks := true }, kinds := [], alts := [], laidByText := true, laidKinds := [.data, .data, .data, .sentinel, .sentinel], laidTests := true, laidLooks := .later }
def FnExactReadBoxCardSaid : Prop := Claim7.holds Tryd.pinned (.plain (OpenSpec.ofChange fnExactReadBoxSpec)) fnExactReadBoxCard

/-- THE TIED CARD OF 'laws.FnBoxText'. -/
def fnBoxTextCard : Claim7 := { stood := { row := fnBoxTextRow, standIns := [], harness := (true, "3eee504b283d7bac9da4535844723dd63523a6b9371b0debcd91ab9df795d4d9"), looks := true }, kinds := [], alts := [], laidByText := true, laidKinds := [.data, .data, .data, .sentinel, .sentinel], laidTests := true, laidLooks := .later }
def FnBoxTextCardSaid : Prop := Claim7.holds Tryd.pinned (.plain (OpenSpec.ofChange fnBoxTextSpec)) fnBoxTextCard

/-- THE TIED CARD OF 'laws.FnReadBox'. -/
def fnReadBoxCard : Claim7 := { stood := { row := fnReadBoxRow, standIns := [], harness := (true, "3eee504b283d7bac9da4535844723dd63523a6b9371b0debcd91ab9df795d4d9"), looks := true }, kinds := [], alts := [], laidByText := true, laidKinds := [.data, .data, .data, .sentinel, .sentinel], laidTests := true, laidLooks := .later }
def FnReadBoxCardSaid : Prop := Claim7.holds Tryd.pinned (.plain (OpenSpec.ofChange fnReadBoxSpec)) fnReadBoxCard

/-- THE SECOND FORM's CARD OF 'laws.FnExactBoxText'. -/
def fnExactBoxTextUptoCard : Claim7 := { stood := { row := fnExactBoxTextUptoRow, standIns := [], harness := (true, "3eee504b283d7bac9da4535844723dd63523a6b9371b0debcd91ab9df795d4d9"), looks := true }, kinds := [], alts := [], laidByText := true, laidKinds := [.data, .data, .data], laidTests := true, laidLooks := .later }
def FnExactBoxTextUptoCardSaid : Prop := Claim7.holds Tryd.pinned (.plain (OpenSpec.upto fnExactBoxTextSpec)) fnExactBoxTextUptoCard

/-- THE SECOND FORM's CARD OF 'laws.FnExactReadBox'. -/
def fnExactReadBoxUptoCard : Claim7 := { stood := { row := fnExactReadBoxUptoRow, standIns := [], harness := (true, "3eee504b283d7bac9da4535844723dd63523a6b9371b0debcd91ab9df795d4d9"), looks := true }, kinds := [], alts := [], laidByText := true, laidKinds := [.data, .data, .data, .sentinel, .sentinel], laidTests := true, laidLooks := .later }
def FnExactReadBoxUptoCardSaid : Prop := Claim7.holds Tryd.pinned (.plain (OpenSpec.upto fnExactReadBoxSpec)) fnExactReadBoxUptoCard

/-- THE SECOND FORM's CARD OF 'laws.FnBoxText'. -/
def fnBoxTextUptoCard : Claim7 := { stood := { row := fnBoxTextUptoRow, standIns := [], harness := (true, "3eee504b283d7bac9da4535844723dd63523a6b9371b0debcd91ab9df795d4d9"), looks := true }, kinds := [], alts := [], laidByText := true, laidKinds := [.data, .data, .data, .sentinel, .sentinel], laidTests := true, laidLooks := .later }
def FnBoxTextUptoCardSaid : Prop := Claim7.holds Tryd.pinned (.plain (OpenSpec.upto fnBoxTextSpec)) fnBoxTextUptoCard

/-- THE SECOND FORM's CARD OF 'laws.FnReadBox'. -/
def fnReadBoxUptoCard : Claim7 := { stood := { row := fnReadBoxUptoRow, standIns := [], harness := (true, "3eee504b283d7bac9da4535844723dd63523a6b9371b0debcd91ab9df795d4d9"), looks := true }, kinds := [], alts := [], laidByText := true, laidKinds := [.data, .data, .data, .sentinel, .sentinel], laidTests := true, laidLooks := .later }
def FnReadBoxUptoCardSaid : Prop := Claim7.holds Tryd.pinned (.plain (OpenSpec.upto fnReadBoxSpec)) fnReadBoxUptoCard
end Rows
end Go.Proofs.YtbhmbmfhbeocoaaDoor
