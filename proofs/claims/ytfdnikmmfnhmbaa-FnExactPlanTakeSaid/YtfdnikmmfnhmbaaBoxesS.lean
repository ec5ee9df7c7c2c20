/- spec.BoxesValid and the two FindBox at slices that read as lists. Conditions: that the slice reads as the list. -/
import Derived.Test.YtfdnikmmfnhmbaaBoxesV
namespace Go.Proofs.Ytfdnikmmfnhmbaa
open Go.RowKit
set_option linter.unusedVariables false

/-- the first place of a number lies ahead of k iff it stands among the first k -/
theorem ixOf_take (l : List Int) (x : Int) (k : Nat) (hk : k < l.length) (hx : l.getD k 0 = x) : ixOf l x < k ↔ ¬ ixOf (l.take k) x < 0 := by
  induction l generalizing k with
  | nil => simp at hk
  | cons y l ih =>
    cases k with
    | zero =>
      have hy : y = x := by simpa using hx
      simp [ixOf, hy]
    | succ k =>
      have h1 := ih k (by simpa using hk) (by simpa using hx)
      have h2 := ixOf_ge l x
      have h3 := ixOf_ge (l.take k) x
      have hp : 0 ≤ ixOf l x := by
        have hm := ixOf_mem l x
        have hc : l.contains x = true := has_found l x k (by simpa using hk) (by simpa using hx)
        rw [hc] at hm
        simpa using hm
      simp only [List.take_succ_cons, ixOf]
      by_cases h : y = x
      · simp only [if_pos h]; omega
      · simp only [if_neg h]
        split <;> split <;> omega
end Go.Proofs.Ytfdnikmmfnhmbaa
