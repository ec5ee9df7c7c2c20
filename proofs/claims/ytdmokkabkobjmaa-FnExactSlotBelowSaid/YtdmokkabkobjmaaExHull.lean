/- The walks of the laws FnExactHullValid, FnExactSlotOf, FnExactSlotMany, FnExactPlaceOf, FnExactSlotBelow: each returns true. Conditions: none but that the numbers fit their kind. -/
import Derived.Test.YtdmokkabkobjmaaHull
namespace Go.Proofs.Ytdmokkabkobjmaa
open Go.RowKit
set_option linter.unusedVariables false

set_option maxHeartbeats 400000 in
theorem fnExactHullValid_walk (b r t : Int) (wb : (Lit.int .i64 b).wf = true) (wr : (Lit.int .i64 r).wf = true) (wt : (Lit.int .i64 t).wf = true) (w : World) :
    Calls Try.prog 3 #[.agg #[.int .i64 b, .int .i64 r, .int .i64 t]] w fun e w' => e = .returned (.bool true) ∧ Below w.heap.size w w' := by
  clear wb wr wt
  go_enter Try.func3, Try.ntmps3
  go_wp2_with (first
    | (go_at_call 14; refine (toHull_any _ _ _ _).mono ?_; rintro e w1 ⟨rfl, hb1⟩; obtain ⟨hc1, hf1⟩ := bcell hb1; have z1 := hb1.size; (try simp at z1); have y0 : w.heap.size < w1.heap.size := by omega)
    | (go_at_call 13; refine (specHullValid_any _ _ _ _).mono ?_; rintro e w1 ⟨rfl, hb1⟩; obtain ⟨hc1, hf1⟩ := bcell hb1; have z1 := hb1.size; (try simp at z1); have y0 : w.heap.size < w1.heap.size := by omega)
    | (go_at_call 15; refine (implHullValid_any _ _ _ _).mono ?_; rintro e w1 ⟨rfl, hb1⟩; obtain ⟨hc1, hf1⟩ := bcell hb1; have z1 := hb1.size; (try simp at z1); have y0 : w.heap.size < w1.heap.size := by omega))
  all_goals go_ret
  all_goals exact ⟨rfl, (by repeat' (first | exact Below.refl _ _ | assumption | refine bel_step (by assumption) ?_ ?_ | refine Below.drew ?_ | refine below_drewN ?_ _ | refine Below.alloc ?_ ?_ _ | refine Below.setCell ?_ ?_ _ | (simp; done) | (simp; omega) | omega | refine below_le (by assumption) ?_))⟩

set_option maxHeartbeats 400000 in
theorem fnExactSlotOf_walk (b r t bay row tier : Int) (wb : (Lit.int .i64 b).wf = true) (wr : (Lit.int .i64 r).wf = true) (wt : (Lit.int .i64 t).wf = true) (w1 : (Lit.int .i64 bay).wf = true) (w2 : (Lit.int .i64 row).wf = true) (w3 : (Lit.int .i64 tier).wf = true) (w : World) :
    Calls Try.prog 4 #[.agg #[.int .i64 b, .int .i64 r, .int .i64 t], .int .i64 bay, .int .i64 row, .int .i64 tier] w fun e w' => e = .returned (.bool true) ∧ Below w.heap.size w w' := by
  clear wb wr wt w1 w2 w3
  go_enter Try.func4, Try.ntmps4
  go_wp2_with (first
    | (go_at_call 14; refine (toHull_any _ _ _ _).mono ?_; rintro e w1 ⟨rfl, hb1⟩; obtain ⟨hc1, hf1⟩ := bcell hb1; have z1 := hb1.size; (try simp at z1); have y0 : w.heap.size < w1.heap.size := by omega)
    | (go_at_call 16; refine (specSlotOf_any _ _ _ _ _ _ _).mono ?_; rintro e w1 ⟨rfl, hb1⟩; obtain ⟨hc1, hf1⟩ := bcell hb1; have z1 := hb1.size; (try simp at z1); have y0 : w.heap.size < w1.heap.size := by omega)
    | (go_at_call 17; refine (implSlotOf_any _ _ _ _ _ _ _).mono ?_; rintro e w1 ⟨rfl, hb1⟩; obtain ⟨hc1, hf1⟩ := bcell hb1; have z1 := hb1.size; (try simp at z1); have y0 : w.heap.size < w1.heap.size := by omega))
  all_goals go_ret
  all_goals exact ⟨rfl, (by repeat' (first | exact Below.refl _ _ | assumption | refine bel_step (by assumption) ?_ ?_ | refine Below.drew ?_ | refine below_drewN ?_ _ | refine Below.alloc ?_ ?_ _ | refine Below.setCell ?_ ?_ _ | (simp; done) | (simp; omega) | omega | refine below_le (by assumption) ?_))⟩

set_option maxHeartbeats 400000 in
theorem fnExactSlotMany_walk (b r t : Int) (wb : (Lit.int .i64 b).wf = true) (wr : (Lit.int .i64 r).wf = true) (wt : (Lit.int .i64 t).wf = true) (w : World) :
    Calls Try.prog 5 #[.agg #[.int .i64 b, .int .i64 r, .int .i64 t]] w fun e w' => e = .returned (.bool true) ∧ Below w.heap.size w w' := by
  clear wb wr wt
  go_enter Try.func5, Try.ntmps5
  go_wp2_with (first
    | (go_at_call 14; refine (toHull_any _ _ _ _).mono ?_; rintro e w1 ⟨rfl, hb1⟩; obtain ⟨hc1, hf1⟩ := bcell hb1; have z1 := hb1.size; (try simp at z1); have y0 : w.heap.size < w1.heap.size := by omega)
    | (go_at_call 18; refine (specSlotMany_any _ _ _ _).mono ?_; rintro e w1 ⟨rfl, hb1⟩; obtain ⟨hc1, hf1⟩ := bcell hb1; have z1 := hb1.size; (try simp at z1); have y0 : w.heap.size < w1.heap.size := by omega)
    | (go_at_call 19; refine (implSlotMany_any _ _ _ _).mono ?_; rintro e w1 ⟨rfl, hb1⟩; obtain ⟨hc1, hf1⟩ := bcell hb1; have z1 := hb1.size; (try simp at z1); have y0 : w.heap.size < w1.heap.size := by omega))
  all_goals go_ret
  all_goals exact ⟨rfl, (by repeat' (first | exact Below.refl _ _ | assumption | refine bel_step (by assumption) ?_ ?_ | refine Below.drew ?_ | refine below_drewN ?_ _ | refine Below.alloc ?_ ?_ _ | refine Below.setCell ?_ ?_ _ | (simp; done) | (simp; omega) | omega | refine below_le (by assumption) ?_))⟩

set_option maxHeartbeats 400000 in
theorem fnExactPlaceOf_walk (b r t slot : Int) (wb : (Lit.int .i64 b).wf = true) (wr : (Lit.int .i64 r).wf = true) (wt : (Lit.int .i64 t).wf = true) (ws : (Lit.int .i64 slot).wf = true) (w : World) :
    Calls Try.prog 6 #[.agg #[.int .i64 b, .int .i64 r, .int .i64 t], .int .i64 slot] w fun e w' => e = .returned (.bool true) ∧ Below w.heap.size w w' := by
  clear wb wr wt ws
  go_enter Try.func6, Try.ntmps6
  go_wp2_with (first
    | (go_at_call 14; refine (toHull_any _ _ _ _).mono ?_; rintro e w1 ⟨rfl, hb1⟩; obtain ⟨hc1, hf1⟩ := bcell hb1; have z1 := hb1.size; (try simp at z1); have y0 : w.heap.size < w1.heap.size := by omega)
    | (go_at_call 20; refine (specPlaceOf_any _ _ _ _ _).mono ?_; rintro e w1 ⟨rfl, hb1⟩; obtain ⟨hc1, hf1⟩ := bcell hb1; have z1 := hb1.size; (try simp at z1); have y0 : w.heap.size < w1.heap.size := by omega)
    | (go_at_call 21; refine (implPlaceOf_any _ _ _ _ _).mono ?_; rintro e w1 ⟨rfl, hb1⟩; obtain ⟨hc1, hf1⟩ := bcell hb1; have z1 := hb1.size; (try simp at z1); have y0 : w.heap.size < w1.heap.size := by omega))
  all_goals go_ret
  all_goals exact ⟨rfl, (by repeat' (first | exact Below.refl _ _ | assumption | refine bel_step (by assumption) ?_ ?_ | refine Below.drew ?_ | refine below_drewN ?_ _ | refine Below.alloc ?_ ?_ _ | refine Below.setCell ?_ ?_ _ | (simp; done) | (simp; omega) | omega | refine below_le (by assumption) ?_))⟩

set_option maxHeartbeats 400000 in
theorem fnExactSlotBelow_walk (b r t slot : Int) (wb : (Lit.int .i64 b).wf = true) (wr : (Lit.int .i64 r).wf = true) (wt : (Lit.int .i64 t).wf = true) (ws : (Lit.int .i64 slot).wf = true) (w : World) :
    Calls Try.prog 7 #[.agg #[.int .i64 b, .int .i64 r, .int .i64 t], .int .i64 slot] w fun e w' => e = .returned (.bool true) ∧ Below w.heap.size w w' := by
  clear wb wr wt ws
  go_enter Try.func7, Try.ntmps7
  go_wp2_with (first
    | (go_at_call 14; refine (toHull_any _ _ _ _).mono ?_; rintro e w1 ⟨rfl, hb1⟩; obtain ⟨hc1, hf1⟩ := bcell hb1; have z1 := hb1.size; (try simp at z1); have y0 : w.heap.size < w1.heap.size := by omega)
    | (go_at_call 22; refine (specSlotBelow_any _ _ _ _ _).mono ?_; rintro e w1 ⟨rfl, hb1⟩; obtain ⟨hc1, hf1⟩ := bcell hb1; have z1 := hb1.size; (try simp at z1); have y0 : w.heap.size < w1.heap.size := by omega)
    | (go_at_call 23; refine (implSlotBelow_any _ _ _ _ _).mono ?_; rintro e w1 ⟨rfl, hb1⟩; obtain ⟨hc1, hf1⟩ := bcell hb1; have z1 := hb1.size; (try simp at z1); have y0 : w.heap.size < w1.heap.size := by omega))
  all_goals go_ret
  all_goals exact ⟨rfl, (by repeat' (first | exact Below.refl _ _ | assumption | refine bel_step (by assumption) ?_ ?_ | refine Below.drew ?_ | refine below_drewN ?_ _ | refine Below.alloc ?_ ?_ _ | refine Below.setCell ?_ ?_ _ | (simp; done) | (simp; omega) | omega | refine below_le (by assumption) ?_))⟩
end Go.Proofs.Ytdmokkabkobjmaa
