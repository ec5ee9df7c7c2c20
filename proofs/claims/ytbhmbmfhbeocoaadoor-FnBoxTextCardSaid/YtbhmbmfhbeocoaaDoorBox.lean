/- The contracts of the functions on one box: toBox, BoxValid, isId, eqBox. Conditions: none. -/
import Derived.Test.YtbhmbmfhbeocoaaDoorWithin
namespace Go.Proofs.YtbhmbmfhbeocoaaDoor
open Go.RowKit
set_option linter.unusedVariables false

def boxB (id wt cl po : Int) : Bool := inR id 1 999 && inR wt 1 30 && inR cl 0 3 && inR po 0 6

set_option maxHeartbeats 400000 in
theorem implBoxValid_any (id wt cl po : Int) (co : Bool) (w : World) :
    Calls Tryd.prog 14 #[.agg #[.int .i64 id, .int .i64 wt, .int .i64 cl, .int .i64 po, .bool co]] w fun e w' => e = .returned (.bool (boxB id wt cl po)) ∧ Below w.heap.size w w' := by
  go_enter Tryd.func14, Tryd.ntmps14
  go_wp2_with (first
    | (go_at_call 29; refine (isId_any _ _).mono ?_; rintro e w' ⟨rfl, rfl⟩)
    | (go_at_call 30; refine (within_any _ _ _ _).mono ?_; rintro e w' ⟨rfl, rfl⟩))
  all_goals go_ret
  all_goals exact ⟨ret_bool (by simp [boxB, *]), (by repeat' (first | with_reducible exact Below.refl _ _ | with_reducible assumption | with_reducible refine bel_step (by with_reducible assumption) ?_ ?_ | with_reducible refine Below.drew ?_ | with_reducible refine below_drewN ?_ _ | with_reducible refine Below.alloc ?_ ?_ _ | with_reducible refine Below.setCell ?_ ?_ _ | (simp; done) | (simp; omega) | omega | with_reducible refine below_le (by with_reducible assumption) ?_))⟩

set_option maxHeartbeats 400000 in
theorem specBoxValid_any (id wt cl po : Int) (co : Bool) (w : World) :
    Calls Tryd.prog 17 #[.agg #[.int .i64 id, .int .i64 wt, .int .i64 cl, .int .i64 po, .bool co]] w fun e w' => e = .returned (.bool (boxB id wt cl po)) ∧ Below w.heap.size w w' := by
  go_enter Tryd.func17, Tryd.ntmps17
  go_wp2_with (first
    | (go_at_call 32; refine (l1In_any _ _ _ _).mono ?_; rintro e w' ⟨rfl, rfl⟩))
  all_goals go_ret
  all_goals exact ⟨ret_bool (by simp [boxB, *]), (by repeat' (first | with_reducible exact Below.refl _ _ | with_reducible assumption | with_reducible refine bel_step (by with_reducible assumption) ?_ ?_ | with_reducible refine Below.drew ?_ | with_reducible refine below_drewN ?_ _ | with_reducible refine Below.alloc ?_ ?_ _ | with_reducible refine Below.setCell ?_ ?_ _ | (simp; done) | (simp; omega) | omega | with_reducible refine below_le (by with_reducible assumption) ?_))⟩

set_option maxHeartbeats 400000 in
theorem toBox_any (id wt cl po : Int) (co : Bool) (w : World) :
    Calls Tryd.prog 8 #[.agg #[.int .i64 id, .int .i64 wt, .int .i64 cl, .int .i64 po, .bool co]] w fun e w' => e = .returned (.agg #[.int .i64 id, .int .i64 wt, .int .i64 cl, .int .i64 po, .bool co]) ∧ Below w.heap.size w w' := by
  go_enter Tryd.func8, Tryd.ntmps8
  go_wp2
  exact bodyPost_ret (v := .agg #[.int .i64 id, .int .i64 wt, .int .i64 cl, .int .i64 po, .bool co]) (by simp [results, Tryd.results8, go_sem]) rfl ⟨rfl, (by repeat' (first | with_reducible exact Below.refl _ _ | with_reducible assumption | with_reducible refine bel_step (by with_reducible assumption) ?_ ?_ | with_reducible refine Below.drew ?_ | with_reducible refine below_drewN ?_ _ | with_reducible refine Below.alloc ?_ ?_ _ | with_reducible refine Below.setCell ?_ ?_ _ | (simp; done) | (simp; omega) | omega | with_reducible refine below_le (by with_reducible assumption) ?_))⟩

end Go.Proofs.YtbhmbmfhbeocoaaDoor
