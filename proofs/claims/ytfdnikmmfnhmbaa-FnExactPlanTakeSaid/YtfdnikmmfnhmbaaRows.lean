/-
  No cell of these rows narrows 'for every input' (looked for: loops, veiled, ifaces, maps, wideKeys, modest, calm, conditions, laid).
  DERIVED. THE GIVEN ROWS OF THIS SEAT. 7 by the template 'for every input the law returns true; each argument reads behind the call as it read before'; 0 by the template 'total and deterministic' (their statements: YtfdnikmmfnhmbaaTotals.lean).
  GIVEN WITH THE SEED: the statements are not yours to turn. If you find one false, say at which input.
  Laid BY PROGRAM, IN A SANDBOX (cutbox-rows.mjs): the forced cells as the released guide's own fill.sh prints them over the translation 01d183aae1f3b869… (all of the seat's roots in one cut). By AI agents, Wed Nov 11 2026. No macro, syntax, notation, axiom, sorry.
-/
import Derived.Test.YtfdnikmmfnhmbaaChecked
import GoSem.Claim
import GoSem.ClaimJoined
import GoSem.ClaimMapViews
import Derived.JoinedTies
import Derived.KernelRfl
namespace Go.Proofs.Ytfdnikmmfnhmbaa
/- THE CELL 'sum', in the pinned program and in every row, IS THE sha256 OF THE DUMP (.gsa) THAT YtfdnikmmfnhmbaaProg.lean LOADS. Nothing in Lean hashes anything: it is a label: what it is worth is what the hold of that sum in a sandbox is worth. -/
noncomputable def Try.pinned : Pinned := { name := "ytfdnikmmfnhmbaa", sum := "01d183aae1f3b869cddf9ad8dbeb43d90519fbf3b3e19ae411c1df95a3f41958", checked := Try.checked }
namespace Rows
def none {H : Type} : Left H := { results := [], args := [] }

/-- 'laws.FnExactPlanEmpty': WHATEVER THE INPUT: true; the input reads as it did. -/
def fnExactPlanEmptySpec : ChangeSpec := { name := "fnExactPlanEmpty", fn := fun _ => fun
  | [d] => { results := [.lit (.bool true)], args := [d] }
  | _ => none }
def fnExactPlanEmptyRow : OpenClaim := { program := "ytfdnikmmfnhmbaa", sum := "01d183aae1f3b869cddf9ad8dbeb43d90519fbf3b3e19ae411c1df95a3f41958", func := "loop.example/containerport/laws.FnExactPlanEmpty", spec := "fnExactPlanEmpty", apart := false }
def FnExactPlanEmptySaid : Prop := fnExactPlanEmptyRow.holds Try.pinned (OpenSpec.ofChange fnExactPlanEmptySpec)

/-- ITS FALSE NEIGHBOUR: 'it returns false'. Refute it at one input. -/
def fnExactPlanEmptyWrong : ChangeSpec := { name := "fnExactPlanEmpty", fn := fun _ => fun
  | [d] => { results := [.lit (.bool false)], args := [d] }
  | _ => none }
def FnExactPlanEmptyWrongFalsely : Prop := fnExactPlanEmptyRow.holds Try.pinned (OpenSpec.ofChange fnExactPlanEmptyWrong)

/-- 'laws.FnExactPlanValid': WHATEVER THE INPUT: true; the input reads as it did. -/
def fnExactPlanValidSpec : ChangeSpec := { name := "fnExactPlanValid", fn := fun _ => fun
  | [d1, d2, d3] => { results := [.lit (.bool true)], args := [d1, d2, d3] }
  | _ => none }
def fnExactPlanValidRow : OpenClaim := { program := "ytfdnikmmfnhmbaa", sum := "01d183aae1f3b869cddf9ad8dbeb43d90519fbf3b3e19ae411c1df95a3f41958", func := "loop.example/containerport/laws.FnExactPlanValid", spec := "fnExactPlanValid", unfollowed := true, recurses := true, apart := false }
def FnExactPlanValidSaid : Prop := fnExactPlanValidRow.holds Try.pinned (OpenSpec.ofChange fnExactPlanValidSpec)

/-- ITS FALSE NEIGHBOUR: 'it returns false'. Refute it at one input. -/
def fnExactPlanValidWrong : ChangeSpec := { name := "fnExactPlanValid", fn := fun _ => fun
  | [d1, d2, d3] => { results := [.lit (.bool false)], args := [d1, d2, d3] }
  | _ => none }
def FnExactPlanValidWrongFalsely : Prop := fnExactPlanValidRow.holds Try.pinned (OpenSpec.ofChange fnExactPlanValidWrong)

/-- 'laws.FnExactPlanFind': WHATEVER THE INPUT: true; the input reads as it did. -/
def fnExactPlanFindSpec : ChangeSpec := { name := "fnExactPlanFind", fn := fun _ => fun
  | [d1, d2, d3, d4] => { results := [.lit (.bool true)], args := [d1, d2, d3, d4] }
  | _ => none }
def fnExactPlanFindRow : OpenClaim := { program := "ytfdnikmmfnhmbaa", sum := "01d183aae1f3b869cddf9ad8dbeb43d90519fbf3b3e19ae411c1df95a3f41958", func := "loop.example/containerport/laws.FnExactPlanFind", spec := "fnExactPlanFind", unfollowed := true, recurses := true, apart := false }
def FnExactPlanFindSaid : Prop := fnExactPlanFindRow.holds Try.pinned (OpenSpec.ofChange fnExactPlanFindSpec)

/-- ITS FALSE NEIGHBOUR: 'it returns false'. Refute it at one input. -/
def fnExactPlanFindWrong : ChangeSpec := { name := "fnExactPlanFind", fn := fun _ => fun
  | [d1, d2, d3, d4] => { results := [.lit (.bool false)], args := [d1, d2, d3, d4] }
  | _ => none }
def FnExactPlanFindWrongFalsely : Prop := fnExactPlanFindRow.holds Try.pinned (OpenSpec.ofChange fnExactPlanFindWrong)

/-- 'laws.FnExactPlanIds': WHATEVER THE INPUT: true; the input reads as it did. -/
def fnExactPlanIdsSpec : ChangeSpec := { name := "fnExactPlanIds", fn := fun _ => fun
  | [d1, d2, d3] => { results := [.lit (.bool true)], args := [d1, d2, d3] }
  | _ => none }
def fnExactPlanIdsRow : OpenClaim := { program := "ytfdnikmmfnhmbaa", sum := "01d183aae1f3b869cddf9ad8dbeb43d90519fbf3b3e19ae411c1df95a3f41958", func := "loop.example/containerport/laws.FnExactPlanIds", spec := "fnExactPlanIds", unfollowed := true, recurses := true, apart := false }
def FnExactPlanIdsSaid : Prop := fnExactPlanIdsRow.holds Try.pinned (OpenSpec.ofChange fnExactPlanIdsSpec)

/-- ITS FALSE NEIGHBOUR: 'it returns false'. Refute it at one input. -/
def fnExactPlanIdsWrong : ChangeSpec := { name := "fnExactPlanIds", fn := fun _ => fun
  | [d1, d2, d3] => { results := [.lit (.bool false)], args := [d1, d2, d3] }
  | _ => none }
def FnExactPlanIdsWrongFalsely : Prop := fnExactPlanIdsRow.holds Try.pinned (OpenSpec.ofChange fnExactPlanIdsWrong)

/-- 'laws.FnExactPlanNext': WHATEVER THE INPUT: true; the input reads as it did. -/
def fnExactPlanNextSpec : ChangeSpec := { name := "fnExactPlanNext", fn := fun _ => fun
  | [d1, d2, d3] => { results := [.lit (.bool true)], args := [d1, d2, d3] }
  | _ => none }
def fnExactPlanNextRow : OpenClaim := { program := "ytfdnikmmfnhmbaa", sum := "01d183aae1f3b869cddf9ad8dbeb43d90519fbf3b3e19ae411c1df95a3f41958", func := "loop.example/containerport/laws.FnExactPlanNext", spec := "fnExactPlanNext", unfollowed := true, recurses := true, apart := false }
def FnExactPlanNextSaid : Prop := fnExactPlanNextRow.holds Try.pinned (OpenSpec.ofChange fnExactPlanNextSpec)

/-- ITS FALSE NEIGHBOUR: 'it returns false'. Refute it at one input. -/
def fnExactPlanNextWrong : ChangeSpec := { name := "fnExactPlanNext", fn := fun _ => fun
  | [d1, d2, d3] => { results := [.lit (.bool false)], args := [d1, d2, d3] }
  | _ => none }
def FnExactPlanNextWrongFalsely : Prop := fnExactPlanNextRow.holds Try.pinned (OpenSpec.ofChange fnExactPlanNextWrong)

/-- 'laws.FnExactPlanTake': WHATEVER THE INPUT: true; the input reads as it did. -/
def fnExactPlanTakeSpec : ChangeSpec := { name := "fnExactPlanTake", fn := fun _ => fun
  | [d1, d2, d3, d4] => { results := [.lit (.bool true)], args := [d1, d2, d3, d4] }
  | _ => none }
def fnExactPlanTakeRow : OpenClaim := { program := "ytfdnikmmfnhmbaa", sum := "01d183aae1f3b869cddf9ad8dbeb43d90519fbf3b3e19ae411c1df95a3f41958", func := "loop.example/containerport/laws.FnExactPlanTake", spec := "fnExactPlanTake", unfollowed := true, recurses := true, apart := false }
def FnExactPlanTakeSaid : Prop := fnExactPlanTakeRow.holds Try.pinned (OpenSpec.ofChange fnExactPlanTakeSpec)

/-- ITS FALSE NEIGHBOUR: 'it returns false'. Refute it at one input. -/
def fnExactPlanTakeWrong : ChangeSpec := { name := "fnExactPlanTake", fn := fun _ => fun
  | [d1, d2, d3, d4] => { results := [.lit (.bool false)], args := [d1, d2, d3, d4] }
  | _ => none }
def FnExactPlanTakeWrongFalsely : Prop := fnExactPlanTakeRow.holds Try.pinned (OpenSpec.ofChange fnExactPlanTakeWrong)

/-- 'laws.FnPlanEmpty': WHATEVER THE INPUT: true; the input reads as it did. -/
def fnPlanEmptySpec : ChangeSpec := { name := "fnPlanEmpty", fn := fun _ => fun
  | [d] => { results := [.lit (.bool true)], args := [d] }
  | _ => none }
def fnPlanEmptyRow : OpenClaim := { program := "ytfdnikmmfnhmbaa", sum := "01d183aae1f3b869cddf9ad8dbeb43d90519fbf3b3e19ae411c1df95a3f41958", func := "loop.example/containerport/laws.FnPlanEmpty", spec := "fnPlanEmpty", inPlace := ["internal/bytealg.IndexByteString"], unfollowed := true, recurses := true, apart := false }
def FnPlanEmptySaid : Prop := fnPlanEmptyRow.holds Try.pinned (OpenSpec.ofChange fnPlanEmptySpec)

/-- ITS FALSE NEIGHBOUR: 'it returns false'. Refute it at one input. -/
def fnPlanEmptyWrong : ChangeSpec := { name := "fnPlanEmpty", fn := fun _ => fun
  | [d] => { results := [.lit (.bool false)], args := [d] }
  | _ => none }
def FnPlanEmptyWrongFalsely : Prop := fnPlanEmptyRow.holds Try.pinned (OpenSpec.ofChange fnPlanEmptyWrong)

/- THE SECOND FORM. 'bulk': how many values and letters a reading holds, each counted each time it is reached (what is shared counts as often as it is met; a slice's spare places count too). A statement '..UptoSaid' is the law's where the arguments, and the package variables that the reading takes, are together of bulk at most 1048576: NARROWER than '..Said'. Prove '..Said' where nothing that the law and all that it calls make is longer than what came in: it says more and counts as full. Else prove '..UptoSaid'. A law counts once. -/
mutual
def uptoBulk {H : Type} : DataW H → Nat
  | .lit (.string bytes) => bytes.length + 1
  | .lit _ => 1
  | .nil => 1
  | .ptr d => uptoBulk d + 1
  | .slice elems spare => uptoBulkAll elems + uptoBulkAll spare + 1
  | .agg parts => uptoBulkAll parts + 1
  | .iface _ d => uptoBulk d + 1
  | .map entries => uptoBulkEntries entries + 1
  | .held _ => 1
def uptoBulkAll {H : Type} : List (DataW H) → Nat
  | [] => 0
  | d :: r => uptoBulk d + uptoBulkAll r
def uptoBulkEntries {H : Type} : List (Lit × DataW H) → Nat
  | [] => 0
  | x :: r => uptoBulkEntry x + uptoBulkEntries r
def uptoBulkEntry {H : Type} : Lit × DataW H → Nat
  | (.string bytes, d) => bytes.length + uptoBulk d + 1
  | (_, d) => uptoBulk d + 1
 end
def uptoSmall : (H : Type) → List (DataW H) → Bool := fun _ ds => decide (uptoBulkAll ds ≤ 1048576)
def OpenSpec.upto (s : _root_.Go.ChangeSpec) : _root_.Go.OpenSpec := { _root_.Go.OpenSpec.ofChange s with cond := some uptoSmall }

/-- 'laws.FnExactPlanEmpty', WHERE WHAT IT READS IS OF BULK AT MOST 1048576: true; the input reads as it did. -/
def fnExactPlanEmptyUptoRow : OpenClaim := { program := "ytfdnikmmfnhmbaa", sum := "01d183aae1f3b869cddf9ad8dbeb43d90519fbf3b3e19ae411c1df95a3f41958", func := "loop.example/containerport/laws.FnExactPlanEmpty", spec := "fnExactPlanEmpty", apart := false, narrowed := true }
def FnExactPlanEmptyUptoSaid : Prop := fnExactPlanEmptyUptoRow.holds Try.pinned (OpenSpec.upto fnExactPlanEmptySpec)

/-- 'laws.FnExactPlanValid', WHERE WHAT IT READS IS OF BULK AT MOST 1048576: true; the input reads as it did. -/
def fnExactPlanValidUptoRow : OpenClaim := { program := "ytfdnikmmfnhmbaa", sum := "01d183aae1f3b869cddf9ad8dbeb43d90519fbf3b3e19ae411c1df95a3f41958", func := "loop.example/containerport/laws.FnExactPlanValid", spec := "fnExactPlanValid", unfollowed := true, recurses := true, apart := false, narrowed := true }
def FnExactPlanValidUptoSaid : Prop := fnExactPlanValidUptoRow.holds Try.pinned (OpenSpec.upto fnExactPlanValidSpec)

/-- 'laws.FnExactPlanFind', WHERE WHAT IT READS IS OF BULK AT MOST 1048576: true; the input reads as it did. -/
def fnExactPlanFindUptoRow : OpenClaim := { program := "ytfdnikmmfnhmbaa", sum := "01d183aae1f3b869cddf9ad8dbeb43d90519fbf3b3e19ae411c1df95a3f41958", func := "loop.example/containerport/laws.FnExactPlanFind", spec := "fnExactPlanFind", unfollowed := true, recurses := true, apart := false, narrowed := true }
def FnExactPlanFindUptoSaid : Prop := fnExactPlanFindUptoRow.holds Try.pinned (OpenSpec.upto fnExactPlanFindSpec)

/-- 'laws.FnExactPlanIds', WHERE WHAT IT READS IS OF BULK AT MOST 1048576: true; the input reads as it did. -/
def fnExactPlanIdsUptoRow : OpenClaim := { program := "ytfdnikmmfnhmbaa", sum := "01d183aae1f3b869cddf9ad8dbeb43d90519fbf3b3e19ae411c1df95a3f41958", func := "loop.example/containerport/laws.FnExactPlanIds", spec := "fnExactPlanIds", unfollowed := true, recurses := true, apart := false, narrowed := true }
def FnExactPlanIdsUptoSaid : Prop := fnExactPlanIdsUptoRow.holds Try.pinned (OpenSpec.upto fnExactPlanIdsSpec)

/-- 'laws.FnExactPlanNext', WHERE WHAT IT READS IS OF BULK AT MOST 1048576: true; the input reads as it did. -/
def fnExactPlanNextUptoRow : OpenClaim := { program := "ytfdnikmmfnhmbaa", sum := "01d183aae1f3b869cddf9ad8dbeb43d90519fbf3b3e19ae411c1df95a3f41958", func := "loop.example/containerport/laws.FnExactPlanNext", spec := "fnExactPlanNext", unfollowed := true, recurses := true, apart := false, narrowed := true }
def FnExactPlanNextUptoSaid : Prop := fnExactPlanNextUptoRow.holds Try.pinned (OpenSpec.upto fnExactPlanNextSpec)

/-- 'laws.FnExactPlanTake', WHERE WHAT IT READS IS OF BULK AT MOST 1048576: true; the input reads as it did. -/
def fnExactPlanTakeUptoRow : OpenClaim := { program := "ytfdnikmmfnhmbaa", sum := "01d183aae1f3b869cddf9ad8dbeb43d90519fbf3b3e19ae411c1df95a3f41958", func := "loop.example/containerport/laws.FnExactPlanTake", spec := "fnExactPlanTake", unfollowed := true, recurses := true, apart := false, narrowed := true }
def FnExactPlanTakeUptoSaid : Prop := fnExactPlanTakeUptoRow.holds Try.pinned (OpenSpec.upto fnExactPlanTakeSpec)

/-- 'laws.FnPlanEmpty', WHERE WHAT IT READS IS OF BULK AT MOST 1048576: true; the input reads as it did. -/
def fnPlanEmptyUptoRow : OpenClaim := { program := "ytfdnikmmfnhmbaa", sum := "01d183aae1f3b869cddf9ad8dbeb43d90519fbf3b3e19ae411c1df95a3f41958", func := "loop.example/containerport/laws.FnPlanEmpty", spec := "fnPlanEmpty", inPlace := ["internal/bytealg.IndexByteString"], unfollowed := true, recurses := true, apart := false, narrowed := true }
def FnPlanEmptyUptoSaid : Prop := fnPlanEmptyUptoRow.holds Try.pinned (OpenSpec.upto fnPlanEmptySpec)

end Rows
end Go.Proofs.Ytfdnikmmfnhmbaa
