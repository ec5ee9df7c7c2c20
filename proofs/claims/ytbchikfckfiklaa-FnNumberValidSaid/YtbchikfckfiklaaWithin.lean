/- The contracts of within and l1In: is a number in a range. Conditions: none. -/
import Derived.Test.YtbchikfckfiklaaProg
import Derived.Test.YtbchikfckfiklaaKit
namespace Go.Proofs.Ytbchikfckfiklaa
open Go.RowKit
set_option linter.unusedVariables false


set_option maxHeartbeats 400000 in
theorem l1In_any (n lo hi : Int) (w : World) :
    Calls Try.prog 33 #[.int .i64 n, .int .i64 lo, .int .i64 hi] w fun e w' => e = .returned (.bool (inR n lo hi)) ∧ w = w' := by
  go_enter Try.func33, Try.ntmps33
  go_wp2
  all_goals
    go_ret
    exact ⟨ret_bool (by simp [inR] <;> omega), rfl⟩

end Go.Proofs.Ytbchikfckfiklaa
