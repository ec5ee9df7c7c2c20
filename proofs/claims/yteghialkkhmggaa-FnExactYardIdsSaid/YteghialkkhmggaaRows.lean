/-
  No cell of these rows narrows 'for every input' (looked for: loops, veiled, ifaces, maps, wideKeys, modest, calm, conditions, laid).
  DERIVED. THE GIVEN ROWS OF THIS SEAT. 9 by the template 'for every input the law returns true; each argument reads behind the call as it read before'; 0 by the template 'total and deterministic' (their statements: YteghialkkhmggaaTotals.lean).
  GIVEN WITH THE SEED: the statements are not yours to turn. If you find one false, say at which input.
  Laid BY PROGRAM, IN A SANDBOX (cutbox-rows.mjs): the forced cells as the released guide's own fill.sh prints them over the translation c8a6259a0b44d5a2… (all of the seat's roots in one cut). By AI agents, Wed Nov 11 2026. No macro, syntax, notation, axiom, sorry.
-/
import Derived.Test.YteghialkkhmggaaChecked
import GoSem.Claim
import GoSem.ClaimJoined
import GoSem.ClaimMapViews
import Derived.JoinedTies
import Derived.KernelRfl
namespace Go.Proofs.Yteghialkkhmggaa
/- THE CELL 'sum', in the pinned program and in every row, IS THE sha256 OF THE DUMP (.gsa) THAT YteghialkkhmggaaProg.lean LOADS. Nothing in Lean hashes anything: it is a label: what it is worth is what the hold of that sum in a sandbox is worth. -/
noncomputable def Try.pinned : Pinned := { name := "yteghialkkhmggaa", sum := "c8a6259a0b44d5a22226c80f56088c38f23e1957cc941fb03ec9b2f273ce7956", checked := Try.checked }
namespace Rows
def none {H : Type} : Left H := { results := [], args := [] }

/-- 'laws.FnExactYardValid': WHATEVER THE INPUT: true; the input reads as it did. -/
def fnExactYardValidSpec : ChangeSpec := { name := "fnExactYardValid", fn := fun _ => fun
  | [d] => { results := [.lit (.bool true)], args := [d] }
  | _ => none }
def fnExactYardValidRow : OpenClaim := { program := "yteghialkkhmggaa", sum := "c8a6259a0b44d5a22226c80f56088c38f23e1957cc941fb03ec9b2f273ce7956", func := "loop.example/containerport/laws.FnExactYardValid", spec := "fnExactYardValid", apart := false }
def FnExactYardValidSaid : Prop := fnExactYardValidRow.holds Try.pinned (OpenSpec.ofChange fnExactYardValidSpec)

/-- ITS FALSE NEIGHBOUR: 'it returns false'. Refute it at one input. -/
def fnExactYardValidWrong : ChangeSpec := { name := "fnExactYardValid", fn := fun _ => fun
  | [d] => { results := [.lit (.bool false)], args := [d] }
  | _ => none }
def FnExactYardValidWrongFalsely : Prop := fnExactYardValidRow.holds Try.pinned (OpenSpec.ofChange fnExactYardValidWrong)

/-- 'laws.FnExactYardFind': WHATEVER THE INPUT: true; the input reads as it did. -/
def fnExactYardFindSpec : ChangeSpec := { name := "fnExactYardFind", fn := fun _ => fun
  | [d1, d2] => { results := [.lit (.bool true)], args := [d1, d2] }
  | _ => none }
def fnExactYardFindRow : OpenClaim := { program := "yteghialkkhmggaa", sum := "c8a6259a0b44d5a22226c80f56088c38f23e1957cc941fb03ec9b2f273ce7956", func := "loop.example/containerport/laws.FnExactYardFind", spec := "fnExactYardFind", unfollowed := true, recurses := true, apart := false }
def FnExactYardFindSaid : Prop := fnExactYardFindRow.holds Try.pinned (OpenSpec.ofChange fnExactYardFindSpec)

/-- ITS FALSE NEIGHBOUR: 'it returns false'. Refute it at one input. -/
def fnExactYardFindWrong : ChangeSpec := { name := "fnExactYardFind", fn := fun _ => fun
  | [d1, d2] => { results := [.lit (.bool false)], args := [d1, d2] }
  | _ => none }
def FnExactYardFindWrongFalsely : Prop := fnExactYardFindRow.holds Try.pinned (OpenSpec.ofChange fnExactYardFindWrong)

/-- 'laws.FnExactYardIds': WHATEVER THE INPUT: true; the input reads as it did. -/
def fnExactYardIdsSpec : ChangeSpec := { name := "fnExactYardIds", fn := fun _ => fun
  | [d] => { results := [.lit (.bool true)], args := [d] }
  | _ => none }
def fnExactYardIdsRow : OpenClaim := { program := "yteghialkkhmggaa", sum := "c8a6259a0b44d5a22226c80f56088c38f23e1957cc941fb03ec9b2f273ce7956", func := "loop.example/containerport/laws.FnExactYardIds", spec := "fnExactYardIds", unfollowed := true, recurses := true, apart := false }
def FnExactYardIdsSaid : Prop := fnExactYardIdsRow.holds Try.pinned (OpenSpec.ofChange fnExactYardIdsSpec)

/-- ITS FALSE NEIGHBOUR: 'it returns false'. Refute it at one input. -/
def fnExactYardIdsWrong : ChangeSpec := { name := "fnExactYardIds", fn := fun _ => fun
  | [d] => { results := [.lit (.bool false)], args := [d] }
  | _ => none }
def FnExactYardIdsWrongFalsely : Prop := fnExactYardIdsRow.holds Try.pinned (OpenSpec.ofChange fnExactYardIdsWrong)

/-- 'laws.FnExactOrderOk': WHATEVER THE INPUT: true; the input reads as it did. -/
def fnExactOrderOkSpec : ChangeSpec := { name := "fnExactOrderOk", fn := fun _ => fun
  | [d1, d2] => { results := [.lit (.bool true)], args := [d1, d2] }
  | _ => none }
def fnExactOrderOkRow : OpenClaim := { program := "yteghialkkhmggaa", sum := "c8a6259a0b44d5a22226c80f56088c38f23e1957cc941fb03ec9b2f273ce7956", func := "loop.example/containerport/laws.FnExactOrderOk", spec := "fnExactOrderOk", unfollowed := true, recurses := true, apart := false }
def FnExactOrderOkSaid : Prop := fnExactOrderOkRow.holds Try.pinned (OpenSpec.ofChange fnExactOrderOkSpec)

/-- ITS FALSE NEIGHBOUR: 'it returns false'. Refute it at one input. -/
def fnExactOrderOkWrong : ChangeSpec := { name := "fnExactOrderOk", fn := fun _ => fun
  | [d1, d2] => { results := [.lit (.bool false)], args := [d1, d2] }
  | _ => none }
def FnExactOrderOkWrongFalsely : Prop := fnExactOrderOkRow.holds Try.pinned (OpenSpec.ofChange fnExactOrderOkWrong)

/-- 'laws.FnExactBlocking': WHATEVER THE INPUT: true; the input reads as it did. -/
def fnExactBlockingSpec : ChangeSpec := { name := "fnExactBlocking", fn := fun _ => fun
  | [d1, d2] => { results := [.lit (.bool true)], args := [d1, d2] }
  | _ => none }
def fnExactBlockingRow : OpenClaim := { program := "yteghialkkhmggaa", sum := "c8a6259a0b44d5a22226c80f56088c38f23e1957cc941fb03ec9b2f273ce7956", func := "loop.example/containerport/laws.FnExactBlocking", spec := "fnExactBlocking", unfollowed := true, recurses := true, apart := false }
def FnExactBlockingSaid : Prop := fnExactBlockingRow.holds Try.pinned (OpenSpec.ofChange fnExactBlockingSpec)

/-- ITS FALSE NEIGHBOUR: 'it returns false'. Refute it at one input. -/
def fnExactBlockingWrong : ChangeSpec := { name := "fnExactBlocking", fn := fun _ => fun
  | [d1, d2] => { results := [.lit (.bool false)], args := [d1, d2] }
  | _ => none }
def FnExactBlockingWrongFalsely : Prop := fnExactBlockingRow.holds Try.pinned (OpenSpec.ofChange fnExactBlockingWrong)

/-- 'laws.FnYardValid': WHATEVER THE INPUT: true; the input reads as it did. -/
def fnYardValidSpec : ChangeSpec := { name := "fnYardValid", fn := fun _ => fun
  | [d] => { results := [.lit (.bool true)], args := [d] }
  | _ => none }
def fnYardValidRow : OpenClaim := { program := "yteghialkkhmggaa", sum := "c8a6259a0b44d5a22226c80f56088c38f23e1957cc941fb03ec9b2f273ce7956", func := "loop.example/containerport/laws.FnYardValid", spec := "fnYardValid", inPlace := ["internal/bytealg.IndexByteString"], apart := false }
def FnYardValidSaid : Prop := fnYardValidRow.holds Try.pinned (OpenSpec.ofChange fnYardValidSpec)

/-- ITS FALSE NEIGHBOUR: 'it returns false'. Refute it at one input. -/
def fnYardValidWrong : ChangeSpec := { name := "fnYardValid", fn := fun _ => fun
  | [d] => { results := [.lit (.bool false)], args := [d] }
  | _ => none }
def FnYardValidWrongFalsely : Prop := fnYardValidRow.holds Try.pinned (OpenSpec.ofChange fnYardValidWrong)

/-- 'laws.FnYardFind': WHATEVER THE INPUT: true; the input reads as it did. -/
def fnYardFindSpec : ChangeSpec := { name := "fnYardFind", fn := fun _ => fun
  | [d] => { results := [.lit (.bool true)], args := [d] }
  | _ => none }
def fnYardFindRow : OpenClaim := { program := "yteghialkkhmggaa", sum := "c8a6259a0b44d5a22226c80f56088c38f23e1957cc941fb03ec9b2f273ce7956", func := "loop.example/containerport/laws.FnYardFind", spec := "fnYardFind", inPlace := ["internal/bytealg.IndexByteString"], unfollowed := true, recurses := true, apart := false }
def FnYardFindSaid : Prop := fnYardFindRow.holds Try.pinned (OpenSpec.ofChange fnYardFindSpec)

/-- ITS FALSE NEIGHBOUR: 'it returns false'. Refute it at one input. -/
def fnYardFindWrong : ChangeSpec := { name := "fnYardFind", fn := fun _ => fun
  | [d] => { results := [.lit (.bool false)], args := [d] }
  | _ => none }
def FnYardFindWrongFalsely : Prop := fnYardFindRow.holds Try.pinned (OpenSpec.ofChange fnYardFindWrong)

/-- 'laws.FnYardIds': WHATEVER THE INPUT: true; the input reads as it did. -/
def fnYardIdsSpec : ChangeSpec := { name := "fnYardIds", fn := fun _ => fun
  | [d] => { results := [.lit (.bool true)], args := [d] }
  | _ => none }
def fnYardIdsRow : OpenClaim := { program := "yteghialkkhmggaa", sum := "c8a6259a0b44d5a22226c80f56088c38f23e1957cc941fb03ec9b2f273ce7956", func := "loop.example/containerport/laws.FnYardIds", spec := "fnYardIds", inPlace := ["internal/bytealg.IndexByteString"], unfollowed := true, recurses := true, apart := false }
def FnYardIdsSaid : Prop := fnYardIdsRow.holds Try.pinned (OpenSpec.ofChange fnYardIdsSpec)

/-- ITS FALSE NEIGHBOUR: 'it returns false'. Refute it at one input. -/
def fnYardIdsWrong : ChangeSpec := { name := "fnYardIds", fn := fun _ => fun
  | [d] => { results := [.lit (.bool false)], args := [d] }
  | _ => none }
def FnYardIdsWrongFalsely : Prop := fnYardIdsRow.holds Try.pinned (OpenSpec.ofChange fnYardIdsWrong)

/-- 'laws.FnOrderOk': WHATEVER THE INPUT: true; the input reads as it did. -/
def fnOrderOkSpec : ChangeSpec := { name := "fnOrderOk", fn := fun _ => fun
  | [d] => { results := [.lit (.bool true)], args := [d] }
  | _ => none }
def fnOrderOkRow : OpenClaim := { program := "yteghialkkhmggaa", sum := "c8a6259a0b44d5a22226c80f56088c38f23e1957cc941fb03ec9b2f273ce7956", func := "loop.example/containerport/laws.FnOrderOk", spec := "fnOrderOk", inPlace := ["internal/bytealg.IndexByteString"], unfollowed := true, recurses := true, apart := false }
def FnOrderOkSaid : Prop := fnOrderOkRow.holds Try.pinned (OpenSpec.ofChange fnOrderOkSpec)

/-- ITS FALSE NEIGHBOUR: 'it returns false'. Refute it at one input. -/
def fnOrderOkWrong : ChangeSpec := { name := "fnOrderOk", fn := fun _ => fun
  | [d] => { results := [.lit (.bool false)], args := [d] }
  | _ => none }
def FnOrderOkWrongFalsely : Prop := fnOrderOkRow.holds Try.pinned (OpenSpec.ofChange fnOrderOkWrong)

/- THE SECOND FORM. 'bulk': how many values and letters a reading holds, each counted each time it is reached (what is shared counts as often as it is met; a slice's spare places count too). A statement '..UptoSaid' is the law's where the arguments, and the package variables that the reading takes, are together of bulk at most 1048576: NARROWER than '..Said'. Prove '..Said' where nothing that the law and all that it calls make is longer than what came in: it says more and counts as full. Else prove '..UptoSaid'. A law counts once. -/
mutual
def uptoBulk {H : Type} : DataW H → Nat
  | .lit (.string bytes) => bytes.length + 1
  | .lit _ => 1
  | .nil => 1
  | .ptr d => uptoBulk d + 1
  | .slice elems spare => uptoBulkAll elems + uptoBulkAll spare + 1
  | .agg parts => uptoBulkAll parts + 1
  | .iface _ d => uptoBulk d + 1
  | .map entries => uptoBulkEntries entries + 1
  | .held _ => 1
def uptoBulkAll {H : Type} : List (DataW H) → Nat
  | [] => 0
  | d :: r => uptoBulk d + uptoBulkAll r
def uptoBulkEntries {H : Type} : List (Lit × DataW H) → Nat
  | [] => 0
  | x :: r => uptoBulkEntry x + uptoBulkEntries r
def uptoBulkEntry {H : Type} : Lit × DataW H → Nat
  | (.string bytes, d) => bytes.length + uptoBulk d + 1
  | (_, d) => uptoBulk d + 1
 end
def uptoSmall : (H : Type) → List (DataW H) → Bool := fun _ ds => decide (uptoBulkAll ds ≤ 1048576)
def OpenSpec.upto (s : _root_.Go.ChangeSpec) : _root_.Go.OpenSpec := { _root_.Go.OpenSpec.ofChange s with cond := some uptoSmall }

/-- 'laws.FnExactYardValid', WHERE WHAT IT READS IS OF BULK AT MOST 1048576: true; the input reads as it did. -/
def fnExactYardValidUptoRow : OpenClaim := { program := "yteghialkkhmggaa", sum := "c8a6259a0b44d5a22226c80f56088c38f23e1957cc941fb03ec9b2f273ce7956", func := "loop.example/containerport/laws.FnExactYardValid", spec := "fnExactYardValid", apart := false, narrowed := true }
def FnExactYardValidUptoSaid : Prop := fnExactYardValidUptoRow.holds Try.pinned (OpenSpec.upto fnExactYardValidSpec)

/-- 'laws.FnExactYardFind', WHERE WHAT IT READS IS OF BULK AT MOST 1048576: true; the input reads as it did. -/
def fnExactYardFindUptoRow : OpenClaim := { program := "yteghialkkhmggaa", sum := "c8a6259a0b44d5a22226c80f56088c38f23e1957cc941fb03ec9b2f273ce7956", func := "loop.example/containerport/laws.FnExactYardFind", spec := "fnExactYardFind", unfollowed := true, recurses := true, apart := false, narrowed := true }
def FnExactYardFindUptoSaid : Prop := fnExactYardFindUptoRow.holds Try.pinned (OpenSpec.upto fnExactYardFindSpec)

/-- 'laws.FnExactYardIds', WHERE WHAT IT READS IS OF BULK AT MOST 1048576: true; the input reads as it did. -/
def fnExactYardIdsUptoRow : OpenClaim := { program := "yteghialkkhmggaa", sum := "c8a6259a0b44d5a22226c80f56088c38f23e1957cc941fb03ec9b2f273ce7956", func := "loop.example/containerport/laws.FnExactYardIds", spec := "fnExactYardIds", unfollowed := true, recurses := true, apart := false, narrowed := true }
def FnExactYardIdsUptoSaid : Prop := fnExactYardIdsUptoRow.holds Try.pinned (OpenSpec.upto fnExactYardIdsSpec)

/-- 'laws.FnExactOrderOk', WHERE WHAT IT READS IS OF BULK AT MOST 1048576: true; the input reads as it did. -/
def fnExactOrderOkUptoRow : OpenClaim := { program := "yteghialkkhmggaa", sum := "c8a6259a0b44d5a22226c80f56088c38f23e1957cc941fb03ec9b2f273ce7956", func := "loop.example/containerport/laws.FnExactOrderOk", spec := "fnExactOrderOk", unfollowed := true, recurses := true, apart := false, narrowed := true }
def FnExactOrderOkUptoSaid : Prop := fnExactOrderOkUptoRow.holds Try.pinned (OpenSpec.upto fnExactOrderOkSpec)

/-- 'laws.FnExactBlocking', WHERE WHAT IT READS IS OF BULK AT MOST 1048576: true; the input reads as it did. -/
def fnExactBlockingUptoRow : OpenClaim := { program := "yteghialkkhmggaa", sum := "c8a6259a0b44d5a22226c80f56088c38f23e1957cc941fb03ec9b2f273ce7956", func := "loop.example/containerport/laws.FnExactBlocking", spec := "fnExactBlocking", unfollowed := true, recurses := true, apart := false, narrowed := true }
def FnExactBlockingUptoSaid : Prop := fnExactBlockingUptoRow.holds Try.pinned (OpenSpec.upto fnExactBlockingSpec)

/-- 'laws.FnYardValid', WHERE WHAT IT READS IS OF BULK AT MOST 1048576: true; the input reads as it did. -/
def fnYardValidUptoRow : OpenClaim := { program := "yteghialkkhmggaa", sum := "c8a6259a0b44d5a22226c80f56088c38f23e1957cc941fb03ec9b2f273ce7956", func := "loop.example/containerport/laws.FnYardValid", spec := "fnYardValid", inPlace := ["internal/bytealg.IndexByteString"], apart := false, narrowed := true }
def FnYardValidUptoSaid : Prop := fnYardValidUptoRow.holds Try.pinned (OpenSpec.upto fnYardValidSpec)

/-- 'laws.FnYardFind', WHERE WHAT IT READS IS OF BULK AT MOST 1048576: true; the input reads as it did. -/
def fnYardFindUptoRow : OpenClaim := { program := "yteghialkkhmggaa", sum := "c8a6259a0b44d5a22226c80f56088c38f23e1957cc941fb03ec9b2f273ce7956", func := "loop.example/containerport/laws.FnYardFind", spec := "fnYardFind", inPlace := ["internal/bytealg.IndexByteString"], unfollowed := true, recurses := true, apart := false, narrowed := true }
def FnYardFindUptoSaid : Prop := fnYardFindUptoRow.holds Try.pinned (OpenSpec.upto fnYardFindSpec)

/-- 'laws.FnYardIds', WHERE WHAT IT READS IS OF BULK AT MOST 1048576: true; the input reads as it did. -/
def fnYardIdsUptoRow : OpenClaim := { program := "yteghialkkhmggaa", sum := "c8a6259a0b44d5a22226c80f56088c38f23e1957cc941fb03ec9b2f273ce7956", func := "loop.example/containerport/laws.FnYardIds", spec := "fnYardIds", inPlace := ["internal/bytealg.IndexByteString"], unfollowed := true, recurses := true, apart := false, narrowed := true }
def FnYardIdsUptoSaid : Prop := fnYardIdsUptoRow.holds Try.pinned (OpenSpec.upto fnYardIdsSpec)

/-- 'laws.FnOrderOk', WHERE WHAT IT READS IS OF BULK AT MOST 1048576: true; the input reads as it did. -/
def fnOrderOkUptoRow : OpenClaim := { program := "yteghialkkhmggaa", sum := "c8a6259a0b44d5a22226c80f56088c38f23e1957cc941fb03ec9b2f273ce7956", func := "loop.example/containerport/laws.FnOrderOk", spec := "fnOrderOk", inPlace := ["internal/bytealg.IndexByteString"], unfollowed := true, recurses := true, apart := false, narrowed := true }
def FnOrderOkUptoSaid : Prop := fnOrderOkUptoRow.holds Try.pinned (OpenSpec.upto fnOrderOkSpec)

end Rows
end Go.Proofs.Yteghialkkhmggaa
