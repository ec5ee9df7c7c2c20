/- The contracts of within and l1In: is a number in a range. Conditions: none. -/
import Derived.Test.YtbchikfckfiklaaDoorProg
import Derived.Test.YtbchikfckfiklaaDoorKit
namespace Go.Proofs.YtbchikfckfiklaaDoor
open Go.RowKit
set_option linter.unusedVariables false


set_option maxHeartbeats 400000 in
theorem l1In_any (n lo hi : Int) (w : World) :
    Calls Tryd.prog 15 #[.int .i64 n, .int .i64 lo, .int .i64 hi] w fun e w' => e = .returned (.bool (inR n lo hi)) ∧ w = w' := by
  go_enter Tryd.func15, Tryd.ntmps15
  go_wp2
  all_goals
    go_ret
    exact ⟨ret_bool (by simp [inR] <;> omega), rfl⟩

end Go.Proofs.YtbchikfckfiklaaDoor
