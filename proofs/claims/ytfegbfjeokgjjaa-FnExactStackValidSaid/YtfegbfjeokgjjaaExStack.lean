/- The walks of the laws FnExactStackValid and FnExactStackAbove: each returns true and leaves the old memory alone. Conditions: that the slice reads as integers. -/
import Derived.Test.YtfegbfjeokgjjaaStack
namespace Go.Proofs.Ytfegbfjeokgjjaa
open Go.RowKit
set_option linter.unusedVariables false

set_option maxHeartbeats 800000 in
theorem fnExactStackValid_walk (A : Option Addr) (n c : Nat) (zs : List Int) (high : Int) (w : World) (h : IsRow .i64 w A n c zs) (wh : (Lit.int .i64 high).wf = true) :
    Calls Try.prog 3 #[.slice A n c, .int .i64 high] w fun e w' => e = .returned (.bool true) ∧ Below w.heap.size w w' := by
  clear wh
  have hI := Ints.of_row h
  obtain ⟨xs, hxs⟩ : ∃ xs, zs.take n = xs := ⟨_, rfl⟩
  rw [hxs] at hI
  have H := Lib.hid hI
  clear h hI hxs
  by_cases hn : 1048576 < n
  · have hn' : (1048576 : Int) < n := by omega
    go_enter Try.func3, Try.ntmps3
    go_wp2_with (fail)
    go_ret
    exact ⟨rfl, (by repeat' (first | with_reducible exact Below.refl _ _ | with_reducible assumption | with_reducible refine bel_step (by with_reducible assumption) ?_ ?_ | with_reducible refine Below.drew ?_ | with_reducible refine below_drewN ?_ _ | with_reducible refine Below.alloc ?_ ?_ _ | with_reducible refine Below.setCell ?_ ?_ _ | (simp; done) | (simp; omega) | omega | with_reducible refine below_le (by with_reducible assumption) ?_))⟩
  · have hn' : (n : Int) ≤ 1048576 := by omega
    go_enter Try.func3, Try.ntmps3
    go_wp2_with (fail)
    refine (toIntS_any _ _ _ _ _ H.out (by omega)).mono ?_
    rintro e w1 ⟨g1, n1, rfl, hg1, ho1, hb1⟩
    go_wp2_with (fail)
    refine (specStackValid_any _ _ _ _ _ _ ho1.ints).mono ?_
    rintro e w2 ⟨rfl, hb2⟩
    have hI2 := (H.out.below hb1).below hb2
    go_wp2_with (fail)
    refine (toIntS_any _ _ _ _ _ hI2 (by omega)).mono ?_
    rintro e w3 ⟨g3, n3, rfl, hg3, ho3, hb3⟩
    go_wp2_with (fail)
    refine (implStackValid_any _ _ _ _ _ _ ho3.ints).mono ?_
    rintro e w4 ⟨rfl, rfl⟩
    have hI3 := hI2.below hb3
    go_wp2_with (fail)
    refine (toIntS_any _ _ _ _ _ hI3 (by omega)).mono ?_
    rintro e w5 ⟨g5, n5, rfl, hg5, ho5, hb5⟩
    have he := eqL_self xs
    go_wp2_with (fail)
    refine (eqIntS_any _ _ _ _ _ _ _ _ _ (ho3.below hb5).ints ho5.ints).mono ?_
    rintro e w6 ⟨rfl, hb6⟩
    go_wp2_with (fail)
    go_ret
    exact ⟨rfl, (by repeat' (first | with_reducible exact Below.refl _ _ | with_reducible assumption | with_reducible refine bel_step (by with_reducible assumption) ?_ ?_ | with_reducible refine Below.drew ?_ | with_reducible refine below_drewN ?_ _ | with_reducible refine Below.alloc ?_ ?_ _ | with_reducible refine Below.setCell ?_ ?_ _ | (simp; done) | (simp; omega) | omega | with_reducible refine below_le (by with_reducible assumption) ?_))⟩
set_option maxHeartbeats 800000 in
theorem fnExactStackAbove_walk (A : Option Addr) (n c : Nat) (zs : List Int) (high id : Int) (w : World) (h : IsRow .i64 w A n c zs) (wh : (Lit.int .i64 high).wf = true) (wi : (Lit.int .i64 id).wf = true) :
    Calls Try.prog 6 #[.slice A n c, .int .i64 high, .int .i64 id] w fun e w' => e = .returned (.bool true) ∧ Below w.heap.size w w' := by
  clear wh wi
  have hI := Ints.of_row h
  obtain ⟨xs, hxs⟩ : ∃ xs, zs.take n = xs := ⟨_, rfl⟩
  rw [hxs] at hI
  have H := Lib.hid hI
  clear h hI hxs
  by_cases hn : 1048576 < n
  · have hn' : (1048576 : Int) < n := by omega
    go_enter Try.func6, Try.ntmps6
    go_wp2_with (fail)
    go_ret
    exact ⟨rfl, (by repeat' (first | with_reducible exact Below.refl _ _ | with_reducible assumption | with_reducible refine bel_step (by with_reducible assumption) ?_ ?_ | with_reducible refine Below.drew ?_ | with_reducible refine below_drewN ?_ _ | with_reducible refine Below.alloc ?_ ?_ _ | with_reducible refine Below.setCell ?_ ?_ _ | (simp; done) | (simp; omega) | omega | with_reducible refine below_le (by with_reducible assumption) ?_))⟩
  · have hn' : (n : Int) ≤ 1048576 := by omega
    go_enter Try.func6, Try.ntmps6
    go_wp2_with (fail)
    refine (toIntS_any _ _ _ _ _ H.out (by omega)).mono ?_
    rintro e w1 ⟨g1, n1, rfl, hg1, ho1, hb1⟩
    go_wp2_with (fail)
    refine (specStackAbove_any _ _ _ _ _ _ _ ho1.ints).mono ?_
    rintro e w2 ⟨rfl, hb2⟩
    have hI2 := (H.out.below hb1).below hb2
    go_wp2_with (fail)
    refine (toIntS_any _ _ _ _ _ hI2 (by omega)).mono ?_
    rintro e w3 ⟨g3, n3, rfl, hg3, ho3, hb3⟩
    go_wp2_with (fail)
    refine (implStackAbove_any _ _ _ _ _ _ _ ho3.ints).mono ?_
    rintro e w4 ⟨rfl, rfl⟩
    have hI3 := hI2.below hb3
    go_wp2_with (fail)
    refine (toIntS_any _ _ _ _ _ hI3 (by omega)).mono ?_
    rintro e w5 ⟨g5, n5, rfl, hg5, ho5, hb5⟩
    have he := eqL_self xs
    go_wp2_with (fail)
    refine (eqIntS_any _ _ _ _ _ _ _ _ _ (ho3.below hb5).ints ho5.ints).mono ?_
    rintro e w6 ⟨rfl, hb6⟩
    go_wp2_with (fail)
    go_ret
    exact ⟨rfl, (by repeat' (first | with_reducible exact Below.refl _ _ | with_reducible assumption | with_reducible refine bel_step (by with_reducible assumption) ?_ ?_ | with_reducible refine Below.drew ?_ | with_reducible refine below_drewN ?_ _ | with_reducible refine Below.alloc ?_ ?_ _ | with_reducible refine Below.setCell ?_ ?_ _ | (simp; done) | (simp; omega) | omega | with_reducible refine below_le (by with_reducible assumption) ?_))⟩
end Go.Proofs.Ytfegbfjeokgjjaa
