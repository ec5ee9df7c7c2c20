/- The contracts of the functions on one box: toBox, BoxValid, isId, eqBox. Conditions: none. -/
import Derived.Test.YtbhmbmfhbeocoaaWithin
namespace Go.Proofs.Ytbhmbmfhbeocoaa
open Go.RowKit
set_option linter.unusedVariables false

def boxB (id wt cl po : Int) : Bool := inR id 1 999 && inR wt 1 30 && inR cl 0 3 && inR po 0 6

set_option maxHeartbeats 400000 in
theorem implBoxValid_any (id wt cl po : Int) (co : Bool) (w : World) :
    Calls Try.prog 13 #[.agg #[.int .i64 id, .int .i64 wt, .int .i64 cl, .int .i64 po, .bool co]] w fun e w' => e = .returned (.bool (boxB id wt cl po)) ∧ Below w.heap.size w w' := by
  go_enter Try.func13, Try.ntmps13
  go_wp2_with (first
    | (go_at_call 31; refine (isId_any _ _).mono ?_; rintro e w' ⟨rfl, rfl⟩)
    | (go_at_call 32; refine (within_any _ _ _ _).mono ?_; rintro e w' ⟨rfl, rfl⟩))
  all_goals go_ret
  all_goals exact ⟨ret_bool (by simp [boxB, *]), (by repeat' (first | with_reducible exact Below.refl _ _ | with_reducible assumption | with_reducible refine bel_step (by with_reducible assumption) ?_ ?_ | with_reducible refine Below.drew ?_ | with_reducible refine below_drewN ?_ _ | with_reducible refine Below.alloc ?_ ?_ _ | with_reducible refine Below.setCell ?_ ?_ _ | (simp; done) | (simp; omega) | omega | with_reducible refine below_le (by with_reducible assumption) ?_))⟩

set_option maxHeartbeats 400000 in
theorem specBoxValid_any (id wt cl po : Int) (co : Bool) (w : World) :
    Calls Try.prog 11 #[.agg #[.int .i64 id, .int .i64 wt, .int .i64 cl, .int .i64 po, .bool co]] w fun e w' => e = .returned (.bool (boxB id wt cl po)) ∧ Below w.heap.size w w' := by
  go_enter Try.func11, Try.ntmps11
  go_wp2_with (first
    | (go_at_call 30; refine (l1In_any _ _ _ _).mono ?_; rintro e w' ⟨rfl, rfl⟩))
  all_goals go_ret
  all_goals exact ⟨ret_bool (by simp [boxB, *]), (by repeat' (first | with_reducible exact Below.refl _ _ | with_reducible assumption | with_reducible refine bel_step (by with_reducible assumption) ?_ ?_ | with_reducible refine Below.drew ?_ | with_reducible refine below_drewN ?_ _ | with_reducible refine Below.alloc ?_ ?_ _ | with_reducible refine Below.setCell ?_ ?_ _ | (simp; done) | (simp; omega) | omega | with_reducible refine below_le (by with_reducible assumption) ?_))⟩

set_option maxHeartbeats 400000 in
theorem toBox_any (id wt cl po : Int) (co : Bool) (w : World) :
    Calls Try.prog 12 #[.agg #[.int .i64 id, .int .i64 wt, .int .i64 cl, .int .i64 po, .bool co]] w fun e w' => e = .returned (.agg #[.int .i64 id, .int .i64 wt, .int .i64 cl, .int .i64 po, .bool co]) ∧ Below w.heap.size w w' := by
  go_enter Try.func12, Try.ntmps12
  go_wp2
  exact bodyPost_ret (v := .agg #[.int .i64 id, .int .i64 wt, .int .i64 cl, .int .i64 po, .bool co]) (by simp [results, Try.results12, go_sem]) rfl ⟨rfl, (by repeat' (first | with_reducible exact Below.refl _ _ | with_reducible assumption | with_reducible refine bel_step (by with_reducible assumption) ?_ ?_ | with_reducible refine Below.drew ?_ | with_reducible refine below_drewN ?_ _ | with_reducible refine Below.alloc ?_ ?_ _ | with_reducible refine Below.setCell ?_ ?_ _ | (simp; done) | (simp; omega) | omega | with_reducible refine below_le (by with_reducible assumption) ?_))⟩

set_option maxHeartbeats 400000 in
theorem fnExactBoxValid_walk (id wt cl po : Int) (co : Bool) (h0 : (Lit.int .i64 id).wf = true) (h1 : (Lit.int .i64 wt).wf = true) (h2 : (Lit.int .i64 cl).wf = true) (h3 : (Lit.int .i64 po).wf = true) (w : World) :
    Calls Try.prog 3 #[.agg #[.int .i64 id, .int .i64 wt, .int .i64 cl, .int .i64 po, .bool co]] w fun e w' => e = .returned (.bool true) ∧ Below w.heap.size w w' := by
  clear h0 h1 h2 h3
  go_enter Try.func3, Try.ntmps3
  go_wp2_with (first
    | (go_at_call 12; refine (toBox_any _ _ _ _ _ _).mono ?_; rintro e w1 ⟨rfl, hb1⟩; obtain ⟨hc1, hf1⟩ := bcell hb1; have z1 := hb1.size; (try simp at z1); (have y0 : w.heap.size < w1.heap.size := by omega))
    | (go_at_call 11; refine (specBoxValid_any _ _ _ _ _ _).mono ?_; rintro e w1 ⟨rfl, hb1⟩; obtain ⟨hc1, hf1⟩ := bcell hb1; have z1 := hb1.size; (try simp at z1); (have y0 : w.heap.size < w1.heap.size := by omega))
    | (go_at_call 13; refine (implBoxValid_any _ _ _ _ _ _).mono ?_; rintro e w1 ⟨rfl, hb1⟩; obtain ⟨hc1, hf1⟩ := bcell hb1; have z1 := hb1.size; (try simp at z1); (have y0 : w.heap.size < w1.heap.size := by omega)))
  all_goals go_ret
  all_goals exact ⟨rfl, (by repeat' (first | with_reducible exact Below.refl _ _ | with_reducible assumption | with_reducible refine bel_step (by with_reducible assumption) ?_ ?_ | with_reducible refine Below.drew ?_ | with_reducible refine below_drewN ?_ _ | with_reducible refine Below.alloc ?_ ?_ _ | with_reducible refine Below.setCell ?_ ?_ _ | (simp; done) | (simp; omega) | omega | with_reducible refine below_le (by with_reducible assumption) ?_))⟩
end Go.Proofs.Ytbhmbmfhbeocoaa
