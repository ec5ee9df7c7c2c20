/-
  No cell of these rows narrows 'for every input' (looked for: loops, veiled, ifaces, maps, wideKeys, modest, calm, conditions, laid).
  DERIVED. THE GIVEN ROWS OF THIS SEAT. 7 by the template 'for every input the law returns true; each argument reads behind the call as it read before'; 0 by the template 'total and deterministic' (their statements: YtbchikfckfiklaaTotals.lean).
  GIVEN WITH THE SEED: the statements are not yours to turn. If you find one false, say at which input.
  Laid BY PROGRAM, IN A SANDBOX (cutbox-rows.mjs): the forced cells as the released guide's own fill.sh prints them over the translation ec6a95e5818ceacb… (all of the seat's roots in one cut). By AI agents, Wed Nov 11 2026. No macro, syntax, notation, axiom, sorry.
-/
import Derived.Test.YtbchikfckfiklaaChecked
import GoSem.Claim
import GoSem.ClaimJoined
import GoSem.ClaimMapViews
import Derived.JoinedTies
import Derived.KernelRfl
namespace Go.Proofs.Ytbchikfckfiklaa
/- THE CELL 'sum', in the pinned program and in every row, IS THE sha256 OF THE DUMP (.gsa) THAT YtbchikfckfiklaaProg.lean LOADS. Nothing in Lean hashes anything: it is a label: what it is worth is what the hold of that sum in a sandbox is worth. -/
noncomputable def Try.pinned : Pinned := { name := "ytbchikfckfiklaa", sum := "ec6a95e5818ceacb63a2cd5c72de8fb989baa33125b41c7dc097e48fe44cefa4", checked := Try.checked }
namespace Rows
def none {H : Type} : Left H := { results := [], args := [] }

/-- 'laws.FnExactConstants': WHATEVER THE INPUT: true; the input reads as it did. -/
def fnExactConstantsSpec : ChangeSpec := { name := "fnExactConstants", fn := fun _ => fun
  | [] => { results := [.lit (.bool true)], args := [] }
  | _ => none }
def fnExactConstantsRow : OpenClaim := { program := "ytbchikfckfiklaa", sum := "ec6a95e5818ceacb63a2cd5c72de8fb989baa33125b41c7dc097e48fe44cefa4", func := "loop.example/containerport/laws.FnExactConstants", spec := "fnExactConstants", apart := false }
def FnExactConstantsSaid : Prop := fnExactConstantsRow.holds Try.pinned (OpenSpec.ofChange fnExactConstantsSpec)

/-- ITS FALSE NEIGHBOUR: 'it returns false'. Refute it at one input. -/
def fnExactConstantsWrong : ChangeSpec := { name := "fnExactConstants", fn := fun _ => fun
  | [] => { results := [.lit (.bool false)], args := [] }
  | _ => none }
def FnExactConstantsWrongFalsely : Prop := fnExactConstantsRow.holds Try.pinned (OpenSpec.ofChange fnExactConstantsWrong)

/-- 'laws.FnExactCharValue': WHATEVER THE INPUT: true; the input reads as it did. -/
def fnExactCharValueSpec : ChangeSpec := { name := "fnExactCharValue", fn := fun _ => fun
  | [d] => { results := [.lit (.bool true)], args := [d] }
  | _ => none }
def fnExactCharValueRow : OpenClaim := { program := "ytbchikfckfiklaa", sum := "ec6a95e5818ceacb63a2cd5c72de8fb989baa33125b41c7dc097e48fe44cefa4", func := "loop.example/containerport/laws.FnExactCharValue", spec := "fnExactCharValue", apart := false }
def FnExactCharValueSaid : Prop := fnExactCharValueRow.holds Try.pinned (OpenSpec.ofChange fnExactCharValueSpec)

/-- ITS FALSE NEIGHBOUR: 'it returns false'. Refute it at one input. -/
def fnExactCharValueWrong : ChangeSpec := { name := "fnExactCharValue", fn := fun _ => fun
  | [d] => { results := [.lit (.bool false)], args := [d] }
  | _ => none }
def FnExactCharValueWrongFalsely : Prop := fnExactCharValueRow.holds Try.pinned (OpenSpec.ofChange fnExactCharValueWrong)

/-- 'laws.FnExactCheckRest': WHATEVER THE INPUT: true; the input reads as it did. -/
def fnExactCheckRestSpec : ChangeSpec := { name := "fnExactCheckRest", fn := fun _ => fun
  | [d] => { results := [.lit (.bool true)], args := [d] }
  | _ => none }
def fnExactCheckRestRow : OpenClaim := { program := "ytbchikfckfiklaa", sum := "ec6a95e5818ceacb63a2cd5c72de8fb989baa33125b41c7dc097e48fe44cefa4", func := "loop.example/containerport/laws.FnExactCheckRest", spec := "fnExactCheckRest", inPlace := ["internal/bytealg.IndexByteString"], apart := false }
def FnExactCheckRestSaid : Prop := fnExactCheckRestRow.holds Try.pinned (OpenSpec.ofChange fnExactCheckRestSpec)

/-- ITS FALSE NEIGHBOUR: 'it returns false'. Refute it at one input. -/
def fnExactCheckRestWrong : ChangeSpec := { name := "fnExactCheckRest", fn := fun _ => fun
  | [d] => { results := [.lit (.bool false)], args := [d] }
  | _ => none }
def FnExactCheckRestWrongFalsely : Prop := fnExactCheckRestRow.holds Try.pinned (OpenSpec.ofChange fnExactCheckRestWrong)

/-- 'laws.FnExactNumberValid': WHATEVER THE INPUT: true; the input reads as it did. -/
def fnExactNumberValidSpec : ChangeSpec := { name := "fnExactNumberValid", fn := fun _ => fun
  | [d] => { results := [.lit (.bool true)], args := [d] }
  | _ => none }
def fnExactNumberValidRow : OpenClaim := { program := "ytbchikfckfiklaa", sum := "ec6a95e5818ceacb63a2cd5c72de8fb989baa33125b41c7dc097e48fe44cefa4", func := "loop.example/containerport/laws.FnExactNumberValid", spec := "fnExactNumberValid", inPlace := ["internal/bytealg.IndexByteString"], apart := false }
def FnExactNumberValidSaid : Prop := fnExactNumberValidRow.holds Try.pinned (OpenSpec.ofChange fnExactNumberValidSpec)

/-- ITS FALSE NEIGHBOUR: 'it returns false'. Refute it at one input. -/
def fnExactNumberValidWrong : ChangeSpec := { name := "fnExactNumberValid", fn := fun _ => fun
  | [d] => { results := [.lit (.bool false)], args := [d] }
  | _ => none }
def FnExactNumberValidWrongFalsely : Prop := fnExactNumberValidRow.holds Try.pinned (OpenSpec.ofChange fnExactNumberValidWrong)

/-- 'laws.FnCharValue': WHATEVER THE INPUT: true; the input reads as it did. -/
def fnCharValueSpec : ChangeSpec := { name := "fnCharValue", fn := fun _ => fun
  | [d] => { results := [.lit (.bool true)], args := [d] }
  | _ => none }
def fnCharValueRow : OpenClaim := { program := "ytbchikfckfiklaa", sum := "ec6a95e5818ceacb63a2cd5c72de8fb989baa33125b41c7dc097e48fe44cefa4", func := "loop.example/containerport/laws.FnCharValue", spec := "fnCharValue", inPlace := ["internal/bytealg.IndexByteString"], apart := false }
def FnCharValueSaid : Prop := fnCharValueRow.holds Try.pinned (OpenSpec.ofChange fnCharValueSpec)

/-- ITS FALSE NEIGHBOUR: 'it returns false'. Refute it at one input. -/
def fnCharValueWrong : ChangeSpec := { name := "fnCharValue", fn := fun _ => fun
  | [d] => { results := [.lit (.bool false)], args := [d] }
  | _ => none }
def FnCharValueWrongFalsely : Prop := fnCharValueRow.holds Try.pinned (OpenSpec.ofChange fnCharValueWrong)

/-- 'laws.FnCheckRest': WHATEVER THE INPUT: true; the input reads as it did. -/
def fnCheckRestSpec : ChangeSpec := { name := "fnCheckRest", fn := fun _ => fun
  | [d] => { results := [.lit (.bool true)], args := [d] }
  | _ => none }
def fnCheckRestRow : OpenClaim := { program := "ytbchikfckfiklaa", sum := "ec6a95e5818ceacb63a2cd5c72de8fb989baa33125b41c7dc097e48fe44cefa4", func := "loop.example/containerport/laws.FnCheckRest", spec := "fnCheckRest", inPlace := ["internal/bytealg.IndexByteString"], recurses := true, apart := false }
def FnCheckRestSaid : Prop := fnCheckRestRow.holds Try.pinned (OpenSpec.ofChange fnCheckRestSpec)

/-- ITS FALSE NEIGHBOUR: 'it returns false'. Refute it at one input. -/
def fnCheckRestWrong : ChangeSpec := { name := "fnCheckRest", fn := fun _ => fun
  | [d] => { results := [.lit (.bool false)], args := [d] }
  | _ => none }
def FnCheckRestWrongFalsely : Prop := fnCheckRestRow.holds Try.pinned (OpenSpec.ofChange fnCheckRestWrong)

/-- 'laws.FnNumberValid': WHATEVER THE INPUT: true; the input reads as it did. -/
def fnNumberValidSpec : ChangeSpec := { name := "fnNumberValid", fn := fun _ => fun
  | [d] => { results := [.lit (.bool true)], args := [d] }
  | _ => none }
def fnNumberValidRow : OpenClaim := { program := "ytbchikfckfiklaa", sum := "ec6a95e5818ceacb63a2cd5c72de8fb989baa33125b41c7dc097e48fe44cefa4", func := "loop.example/containerport/laws.FnNumberValid", spec := "fnNumberValid", inPlace := ["internal/bytealg.IndexByteString"], recurses := true, apart := false }
def FnNumberValidSaid : Prop := fnNumberValidRow.holds Try.pinned (OpenSpec.ofChange fnNumberValidSpec)

/-- ITS FALSE NEIGHBOUR: 'it returns false'. Refute it at one input. -/
def fnNumberValidWrong : ChangeSpec := { name := "fnNumberValid", fn := fun _ => fun
  | [d] => { results := [.lit (.bool false)], args := [d] }
  | _ => none }
def FnNumberValidWrongFalsely : Prop := fnNumberValidRow.holds Try.pinned (OpenSpec.ofChange fnNumberValidWrong)

/- THE SECOND FORM. 'bulk': how many values and letters a reading holds, each counted each time it is reached (what is shared counts as often as it is met; a slice's spare places count too). A statement '..UptoSaid' is the law's where the arguments, and the package variables that the reading takes, are together of bulk at most 1048576: NARROWER than '..Said'. Prove '..Said' where nothing that the law and all that it calls make is longer than what came in: it says more and counts as full. Else prove '..UptoSaid'. A law counts once. -/
mutual
def uptoBulk {H : Type} : DataW H → Nat
  | .lit (.string bytes) => bytes.length + 1
  | .lit _ => 1
  | .nil => 1
  | .ptr d => uptoBulk d + 1
  | .slice elems spare => uptoBulkAll elems + uptoBulkAll spare + 1
  | .agg parts => uptoBulkAll parts + 1
  | .iface _ d => uptoBulk d + 1
  | .map entries => uptoBulkEntries entries + 1
  | .held _ => 1
def uptoBulkAll {H : Type} : List (DataW H) → Nat
  | [] => 0
  | d :: r => uptoBulk d + uptoBulkAll r
def uptoBulkEntries {H : Type} : List (Lit × DataW H) → Nat
  | [] => 0
  | x :: r => uptoBulkEntry x + uptoBulkEntries r
def uptoBulkEntry {H : Type} : Lit × DataW H → Nat
  | (.string bytes, d) => bytes.length + uptoBulk d + 1
  | (_, d) => uptoBulk d + 1
 end
def uptoSmall : (H : Type) → List (DataW H) → Bool := fun _ ds => decide (uptoBulkAll ds ≤ 1048576)
def OpenSpec.upto (s : _root_.Go.ChangeSpec) : _root_.Go.OpenSpec := { _root_.Go.OpenSpec.ofChange s with cond := some uptoSmall }

/-- 'laws.FnExactConstants', WHERE WHAT IT READS IS OF BULK AT MOST 1048576: true; the input reads as it did. -/
def fnExactConstantsUptoRow : OpenClaim := { program := "ytbchikfckfiklaa", sum := "ec6a95e5818ceacb63a2cd5c72de8fb989baa33125b41c7dc097e48fe44cefa4", func := "loop.example/containerport/laws.FnExactConstants", spec := "fnExactConstants", apart := false, narrowed := true }
def FnExactConstantsUptoSaid : Prop := fnExactConstantsUptoRow.holds Try.pinned (OpenSpec.upto fnExactConstantsSpec)

/-- 'laws.FnExactCharValue', WHERE WHAT IT READS IS OF BULK AT MOST 1048576: true; the input reads as it did. -/
def fnExactCharValueUptoRow : OpenClaim := { program := "ytbchikfckfiklaa", sum := "ec6a95e5818ceacb63a2cd5c72de8fb989baa33125b41c7dc097e48fe44cefa4", func := "loop.example/containerport/laws.FnExactCharValue", spec := "fnExactCharValue", apart := false, narrowed := true }
def FnExactCharValueUptoSaid : Prop := fnExactCharValueUptoRow.holds Try.pinned (OpenSpec.upto fnExactCharValueSpec)

/-- 'laws.FnExactCheckRest', WHERE WHAT IT READS IS OF BULK AT MOST 1048576: true; the input reads as it did. -/
def fnExactCheckRestUptoRow : OpenClaim := { program := "ytbchikfckfiklaa", sum := "ec6a95e5818ceacb63a2cd5c72de8fb989baa33125b41c7dc097e48fe44cefa4", func := "loop.example/containerport/laws.FnExactCheckRest", spec := "fnExactCheckRest", inPlace := ["internal/bytealg.IndexByteString"], apart := false, narrowed := true }
def FnExactCheckRestUptoSaid : Prop := fnExactCheckRestUptoRow.holds Try.pinned (OpenSpec.upto fnExactCheckRestSpec)

/-- 'laws.FnExactNumberValid', WHERE WHAT IT READS IS OF BULK AT MOST 1048576: true; the input reads as it did. -/
def fnExactNumberValidUptoRow : OpenClaim := { program := "ytbchikfckfiklaa", sum := "ec6a95e5818ceacb63a2cd5c72de8fb989baa33125b41c7dc097e48fe44cefa4", func := "loop.example/containerport/laws.FnExactNumberValid", spec := "fnExactNumberValid", inPlace := ["internal/bytealg.IndexByteString"], apart := false, narrowed := true }
def FnExactNumberValidUptoSaid : Prop := fnExactNumberValidUptoRow.holds Try.pinned (OpenSpec.upto fnExactNumberValidSpec)

/-- 'laws.FnCharValue', WHERE WHAT IT READS IS OF BULK AT MOST 1048576: true; the input reads as it did. -/
def fnCharValueUptoRow : OpenClaim := { program := "ytbchikfckfiklaa", sum := "ec6a95e5818ceacb63a2cd5c72de8fb989baa33125b41c7dc097e48fe44cefa4", func := "loop.example/containerport/laws.FnCharValue", spec := "fnCharValue", inPlace := ["internal/bytealg.IndexByteString"], apart := false, narrowed := true }
def FnCharValueUptoSaid : Prop := fnCharValueUptoRow.holds Try.pinned (OpenSpec.upto fnCharValueSpec)

/-- 'laws.FnCheckRest', WHERE WHAT IT READS IS OF BULK AT MOST 1048576: true; the input reads as it did. -/
def fnCheckRestUptoRow : OpenClaim := { program := "ytbchikfckfiklaa", sum := "ec6a95e5818ceacb63a2cd5c72de8fb989baa33125b41c7dc097e48fe44cefa4", func := "loop.example/containerport/laws.FnCheckRest", spec := "fnCheckRest", inPlace := ["internal/bytealg.IndexByteString"], recurses := true, apart := false, narrowed := true }
def FnCheckRestUptoSaid : Prop := fnCheckRestUptoRow.holds Try.pinned (OpenSpec.upto fnCheckRestSpec)

/-- 'laws.FnNumberValid', WHERE WHAT IT READS IS OF BULK AT MOST 1048576: true; the input reads as it did. -/
def fnNumberValidUptoRow : OpenClaim := { program := "ytbchikfckfiklaa", sum := "ec6a95e5818ceacb63a2cd5c72de8fb989baa33125b41c7dc097e48fe44cefa4", func := "loop.example/containerport/laws.FnNumberValid", spec := "fnNumberValid", inPlace := ["internal/bytealg.IndexByteString"], recurses := true, apart := false, narrowed := true }
def FnNumberValidUptoSaid : Prop := fnNumberValidUptoRow.holds Try.pinned (OpenSpec.upto fnNumberValidSpec)

end Rows
end Go.Proofs.Ytbchikfckfiklaa
