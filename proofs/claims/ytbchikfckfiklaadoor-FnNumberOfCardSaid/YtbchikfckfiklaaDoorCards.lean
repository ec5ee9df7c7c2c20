/-
  DERIVED. GIVEN WITH THE SEED: THE CARDS: each row of YtbchikfckfiklaaDoorRows.lean that lists a variable, with what it lists TIED to the program's text (the seventh form; the later family's looks); each row that meets fmt, with fmt's text TOLD by the authors' own Lean function (tested against real Go, not proved from fmt's source: count such statements apart). THE CARD IS WHAT COUNTS. Prove the row's statement (the work); the ties are given (YtbchikfckfiklaaDoorTie.lean); close each card by the builder's one call (the guide's Derived/Test/ToyasCard.lean, 'card_holds'). Laid BY PROGRAM, IN A SANDBOX (cutbox-door.mjs). By AI agents, Wed Nov 11 2026. No macro, syntax, notation, axiom, sorry.
-/
import Derived.Test.YtbchikfckfiklaaDoorRows
import GoSem.ClaimSeven
namespace Go.Proofs.YtbchikfckfiklaaDoor
namespace Rows

/-- THE TIED CARD OF 'laws.FnExactNumberOf'. -/
def fnExactNumberOfCard : Claim7 := { stood := { row := fnExactNumberOfRow, standIns := [], harness := (true, "3b8405578645d394f3c3185295d614f951ce66fac9266b25004eebb6b8b373b9"), looks := true }, kinds := [], alts := [], laidByText := true, laidKinds := [.data, .data, .data], laidTests := true, laidLooks := .later }
def FnExactNumberOfCardSaid : Prop := Claim7.holds Tryd.pinned (.plain (OpenSpec.ofChange fnExactNumberOfSpec)) fnExactNumberOfCard

/-- THE TIED CARD OF 'laws.FnExactSerialOf'. -/
def fnExactSerialOfCard : Claim7 := { stood := { row := fnExactSerialOfRow, standIns := [], harness := (true, "3b8405578645d394f3c3185295d614f951ce66fac9266b25004eebb6b8b373b9"), looks := true }, kinds := [], alts := [], laidByText := true, laidKinds := [.data, .data, .data, .sentinel, .sentinel], laidTests := true, laidLooks := .later }
def FnExactSerialOfCardSaid : Prop := Claim7.holds Tryd.pinned (.plain (OpenSpec.ofChange fnExactSerialOfSpec)) fnExactSerialOfCard

/-- THE TIED CARD OF 'laws.FnNumberOf'. -/
def fnNumberOfCard : Claim7 := { stood := { row := fnNumberOfRow, standIns := [], harness := (true, "3b8405578645d394f3c3185295d614f951ce66fac9266b25004eebb6b8b373b9"), looks := true }, kinds := [], alts := [], laidByText := true, laidKinds := [.data, .data, .data, .sentinel, .sentinel], laidTests := true, laidLooks := .later }
def FnNumberOfCardSaid : Prop := Claim7.holds Tryd.pinned (.plain (OpenSpec.ofChange fnNumberOfSpec)) fnNumberOfCard

/-- THE TIED CARD OF 'laws.FnSerialOf'. -/
def fnSerialOfCard : Claim7 := { stood := { row := fnSerialOfRow, standIns := [], harness := (true, "3b8405578645d394f3c3185295d614f951ce66fac9266b25004eebb6b8b373b9"), looks := true }, kinds := [], alts := [], laidByText := true, laidKinds := [.data, .data, .data, .sentinel, .sentinel], laidTests := true, laidLooks := .later }
def FnSerialOfCardSaid : Prop := Claim7.holds Tryd.pinned (.plain (OpenSpec.ofChange fnSerialOfSpec)) fnSerialOfCard

/-- THE SECOND FORM's CARD OF 'laws.FnExactNumberOf'. -/
def fnExactNumberOfUptoCard : Claim7 := { stood := { row := fnExactNumberOfUptoRow, standIns := [], harness := (true, "3b8405578645d394f3c3185295d614f951ce66fac9266b25004eebb6b8b373b9"), looks := true }, kinds := [], alts := [], laidByText := true, laidKinds := [.data, .data, .data], laidTests := true, laidLooks := .later }
def FnExactNumberOfUptoCardSaid : Prop := Claim7.holds Tryd.pinned (.plain (OpenSpec.upto fnExactNumberOfSpec)) fnExactNumberOfUptoCard

/-- THE SECOND FORM's CARD OF 'laws.FnExactSerialOf'. -/
def fnExactSerialOfUptoCard : Claim7 := { stood := { row := fnExactSerialOfUptoRow, standIns := [], harness := (true, "3b8405578645d394f3c3185295d614f951ce66fac9266b25004eebb6b8b373b9"), looks := true }, kinds := [], alts := [], laidByText := true, laidKinds := [.data, .data, .data, .sentinel, .sentinel], laidTests := true, laidLooks := .later }
def FnExactSerialOfUptoCardSaid : Prop := Claim7.holds Tryd.pinned (.plain (OpenSpec.upto fnExactSerialOfSpec)) fnExactSerialOfUptoCard

/-- THE SECOND FORM's CARD OF 'laws.FnNumberOf'. -/
def fnNumberOfUptoCard : Claim7 := { stood := { row := fnNumberOfUptoRow, standIns := [], harness := (true, "3b8405578645d394f3c3185295d614f951ce66fac9266b25004eebb6b8b373b9"), looks := true }, kinds := [], alts := [], laidByText := true, laidKinds := [.data, .data, .data, .sentinel, .sentinel], laidTests := true, laidLooks := .later }
def FnNumberOfUptoCardSaid : Prop := Claim7.holds Tryd.pinned (.plain (OpenSpec.upto fnNumberOfSpec)) fnNumberOfUptoCard

/-- THE SECOND FORM's CARD OF 'laws.FnSerialOf'. -/
def fnSerialOfUptoCard : Claim7 := { stood := { row := fnSerialOfUptoRow, standIns := [], harness := (true, "3b8405578645d394f3c3185295d614f951ce66fac9266b25004eebb6b8b373b9"), looks := true }, kinds := [], alts := [], laidByText := true, laidKinds := [.data, .data, .data, .sentinel, .sentinel], laidTests := true, laidLooks := .later }
def FnSerialOfUptoCardSaid : Prop := Claim7.holds Tryd.pinned (.plain (OpenSpec.upto fnSerialOfSpec)) fnSerialOfUptoCard
end Rows
end Go.Proofs.YtbchikfckfiklaaDoor
