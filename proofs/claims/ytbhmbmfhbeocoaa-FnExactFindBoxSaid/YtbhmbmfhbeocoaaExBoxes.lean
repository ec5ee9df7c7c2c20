/- The walks of the laws FnExactBoxesValid, FnExactFindBox, FnExactWeightOf: each returns true and leaves the old memory alone. Conditions: that the slices read as boxes and integers. -/
import Derived.Test.YtbhmbmfhbeocoaaBoxOwn
import Derived.Test.YtbhmbmfhbeocoaaBoxesW2
namespace Go.Proofs.Ytbhmbmfhbeocoaa
open Go.RowKit
set_option linter.unusedVariables false


theorem implFindBox2_any (A : Option Addr) (n c : Nat) (bs : List Bx) (x : Int) (w : World) (h : IsBoxes w A n c bs) :
    Calls Try.prog 20 #[.slice A n c, .int .i64 x] w fun e w' => e = .returned (.int .i64 (findV bs x)) ∧ Below w.heap.size w w' := implFindBox_any A n c bs x w h
set_option maxHeartbeats 800000 in
theorem fnExactBoxesValid_walk (A : Option Addr) (n c : Nat) (bs : List Bx) (w : World) (h : IsBoxes w A n c bs) :
    Calls Try.prog 4 #[.slice A n c] w fun e w' => e = .returned (.bool true) ∧ Below w.heap.size w w' := by
  have hlen := h.len
  have H := Lib.hid h
  clear h
  go_enter Try.func4, Try.ntmps4
  go_wp2_with (fail)
  refine (szBoxS_any _ _ _ _ _ (by omega) (by omega) hlen).mono ?_
  rintro e w0 ⟨rfl, hb0⟩
  by_cases hn : (1048576 : Int) - n < 0
  · rw [if_pos hn]
    go_wp2_with (fail)
    go_ret
    exact ⟨rfl, (by repeat' (first | with_reducible exact Below.refl _ _ | with_reducible assumption | with_reducible refine bel_step (by with_reducible assumption) ?_ ?_ | with_reducible refine Below.drew ?_ | with_reducible refine below_drewN ?_ _ | with_reducible refine Below.alloc ?_ ?_ _ | with_reducible refine Below.setCell ?_ ?_ _ | (simp; done) | (simp; omega) | omega | with_reducible refine below_le (by with_reducible assumption) ?_))⟩
  · rw [if_neg hn]
    have hI0 := H.out.below hb0
    go_wp2_with (fail)
    refine (toBoxS_any _ _ _ _ _ hI0 (by omega)).mono ?_
    rintro e w1 ⟨g1, n1, rfl, hg1, ho1, hb1⟩
    go_wp2_with (fail)
    refine (specBoxesValid_any _ _ _ _ _ ho1.boxes).mono ?_
    rintro e w2 ⟨rfl, hb2⟩
    have hI2 := (hI0.below hb1).below hb2
    go_wp2_with (fail)
    refine (toBoxS_any _ _ _ _ _ hI2 (by omega)).mono ?_
    rintro e w3 ⟨g3, n3, rfl, hg3, ho3, hb3⟩
    go_wp2_with (fail)
    have hI3 := hI2.below hb3
    refine (implBoxesValid_any _ _ _ _ _ ho3.boxes).mono ?_
    rintro e w4 ⟨rfl, hb4⟩
    have hI4 := hI3.below hb4
    have hJ4 := ho3.boxes.below hb4
    have hlen3 := ho3.2.1
    go_wp2_with (fail)
    refine (toBoxS_any _ _ _ _ _ hI4 (by omega)).mono ?_
    rintro e w5 ⟨g5, n5, rfl, hg5, ho5, hb5⟩
    obtain rfl : n5 = n3 := by have := ho5.2.1; omega
    have hJ5 := hJ4.below hb5
    go_wp2_with (fail)
    refine (eqBoxS_same _ _ _ _ _ _ _ hJ5 ho5.boxes).mono ?_
    rintro e w6 ⟨rfl, hb6⟩
    go_wp2_with (fail)
    go_ret
    exact ⟨rfl, (by repeat' (first | with_reducible exact Below.refl _ _ | with_reducible assumption | with_reducible refine bel_step (by with_reducible assumption) ?_ ?_ | with_reducible refine Below.drew ?_ | with_reducible refine below_drewN ?_ _ | with_reducible refine Below.alloc ?_ ?_ _ | with_reducible refine Below.setCell ?_ ?_ _ | (simp; done) | (simp; omega) | omega | with_reducible refine below_le (by with_reducible assumption) ?_))⟩

set_option maxHeartbeats 800000 in
theorem fnExactFindBox_walk (A : Option Addr) (n c : Nat) (bs : List Bx) (x : Int) (w : World) (h : IsBoxes w A n c bs) (wx : (Lit.int .i64 x).wf = true) :
    Calls Try.prog 5 #[.slice A n c, .int .i64 x] w fun e w' => e = .returned (.bool true) ∧ Below w.heap.size w w' := by
  have hlen := h.len
  have H := Lib.hid h
  clear h
  go_enter Try.func5, Try.ntmps5
  go_wp2_with (fail)
  refine (szBoxS_any _ _ _ _ _ (by omega) (by omega) hlen).mono ?_
  rintro e w0 ⟨rfl, hb0⟩
  by_cases hn : (1048576 : Int) - n < 0
  · rw [if_pos hn]
    go_wp2_with (fail)
    go_ret
    exact ⟨rfl, (by repeat' (first | with_reducible exact Below.refl _ _ | with_reducible assumption | with_reducible refine bel_step (by with_reducible assumption) ?_ ?_ | with_reducible refine Below.drew ?_ | with_reducible refine below_drewN ?_ _ | with_reducible refine Below.alloc ?_ ?_ _ | with_reducible refine Below.setCell ?_ ?_ _ | (simp; done) | (simp; omega) | omega | with_reducible refine below_le (by with_reducible assumption) ?_))⟩
  · rw [if_neg hn]
    have hI0 := H.out.below hb0
    go_wp2_with (fail)
    refine (toBoxS_any _ _ _ _ _ hI0 (by omega)).mono ?_
    rintro e w1 ⟨g1, n1, rfl, hg1, ho1, hb1⟩
    go_wp2_with (fail)
    refine (specFindBox_any _ _ _ _ _ _ ho1.boxes).mono ?_
    rintro e w2 ⟨rfl, hb2⟩
    have hI2 := (hI0.below hb1).below hb2
    go_wp2_with (fail)
    refine (toBoxS_any _ _ _ _ _ hI2 (by omega)).mono ?_
    rintro e w3 ⟨g3, n3, rfl, hg3, ho3, hb3⟩
    go_wp2_with (fail)
    have hI3 := hI2.below hb3
    refine (implFindBox2_any _ _ _ _ _ _ ho3.boxes).mono ?_
    rintro e w4 ⟨rfl, hb4⟩
    have hI4 := hI3.below hb4
    have hJ4 := ho3.boxes.below hb4
    have hlen3 := ho3.2.1
    go_wp2_with (fail)
    refine (toBoxS_any _ _ _ _ _ hI4 (by omega)).mono ?_
    rintro e w5 ⟨g5, n5, rfl, hg5, ho5, hb5⟩
    obtain rfl : n5 = n3 := by have := ho5.2.1; omega
    have hJ5 := hJ4.below hb5
    go_wp2_with (fail)
    refine (eqBoxS_same _ _ _ _ _ _ _ hJ5 ho5.boxes).mono ?_
    rintro e w6 ⟨rfl, hb6⟩
    go_wp2_with (fail)
    go_ret
    exact ⟨rfl, (by repeat' (first | with_reducible exact Below.refl _ _ | with_reducible assumption | with_reducible refine bel_step (by with_reducible assumption) ?_ ?_ | with_reducible refine Below.drew ?_ | with_reducible refine below_drewN ?_ _ | with_reducible refine Below.alloc ?_ ?_ _ | with_reducible refine Below.setCell ?_ ?_ _ | (simp; done) | (simp; omega) | omega | with_reducible refine below_le (by with_reducible assumption) ?_))⟩

set_option maxHeartbeats 1600000 in
theorem fnExactWeightOf_walk (A : Option Addr) (n c : Nat) (bs : List Bx) (A' : Option Addr) (n' c' : Nat) (zs : List Int) (w : World) (h : IsBoxes w A n c bs) (h' : IsRow .i64 w A' n' c' zs) :
    Calls Try.prog 6 #[.slice A n c, .slice A' n' c'] w fun e w' => e = .returned (.bool true) ∧ Below w.heap.size w w' := by
  have hlen := h.len
  have H := Lib.hid h
  clear h
  have hI := Ints.of_row h'
  obtain ⟨xs, hxs⟩ : ∃ xs, zs.take n' = xs := ⟨_, rfl⟩
  rw [hxs] at hI
  have HI := Lib.hid hI
  have hlen' := hI.len
  clear h' hI hxs
  by_cases hn' : (1048576 : Int) < n'
  · go_enter Try.func6, Try.ntmps6
    go_wp2_with (fail)
    go_ret
    exact ⟨rfl, (by repeat' (first | with_reducible exact Below.refl _ _ | with_reducible assumption | with_reducible refine bel_step (by with_reducible assumption) ?_ ?_ | with_reducible refine Below.drew ?_ | with_reducible refine below_drewN ?_ _ | with_reducible refine Below.alloc ?_ ?_ _ | with_reducible refine Below.setCell ?_ ?_ _ | (simp; done) | (simp; omega) | omega | with_reducible refine below_le (by with_reducible assumption) ?_))⟩
  · have hn1 : (n' : Int) ≤ 1048576 := by omega
    go_enter Try.func6, Try.ntmps6
    go_wp2_with (fail)
    refine (szBoxS_any _ _ _ _ _ (by omega) (by omega) hlen).mono ?_
    rintro e w0 ⟨rfl, hb0⟩
    by_cases hn : (1048576 : Int) - n < 0
    · rw [if_pos hn]
      go_wp2_with (fail)
      go_ret
      exact ⟨rfl, (by repeat' (first | with_reducible exact Below.refl _ _ | with_reducible assumption | with_reducible refine bel_step (by with_reducible assumption) ?_ ?_ | with_reducible refine Below.drew ?_ | with_reducible refine below_drewN ?_ _ | with_reducible refine Below.alloc ?_ ?_ _ | with_reducible refine Below.setCell ?_ ?_ _ | (simp; done) | (simp; omega) | omega | with_reducible refine below_le (by with_reducible assumption) ?_))⟩
    · rw [if_neg hn]
      have hI0 := H.out.below hb0
      have hZ0 := HI.out.below hb0
      go_wp2_with (fail)
      refine (toBoxS_any _ _ _ _ _ hI0 (by omega)).mono ?_
      rintro e w1 ⟨g1, n1, rfl, hg1, ho1, hb1⟩
      have hZ1 := hZ0.below hb1
      go_wp2_with (fail)
      refine (toIntS_any _ _ _ _ _ hZ1 (by omega)).mono ?_
      rintro e w2 ⟨g2, n2, rfl, hg2, ho2, hb2⟩
      go_wp2_with (fail)
      refine (specWeightOf_any _ _ _ _ _ _ _ _ _ (ho1.boxes.below hb2) ho2.ints).mono ?_
      rintro e w3 ⟨rfl, hb3⟩
      have hI3 := ((hI0.below hb1).below hb2).below hb3
      have hZ3 := (hZ1.below hb2).below hb3
      go_wp2_with (fail)
      refine (toBoxS_any _ _ _ _ _ hI3 (by omega)).mono ?_
      rintro e w4 ⟨g4, n4, rfl, hg4, ho4, hb4⟩
      have hZ4 := hZ3.below hb4
      go_wp2_with (fail)
      refine (toIntS_any _ _ _ _ _ hZ4 (by omega)).mono ?_
      rintro e w5 ⟨g5, n5, rfl, hg5, ho5, hb5⟩
      have hJ5 := ho4.boxes.below hb5
      have hK5 := ho5.ints
      go_wp2_with (fail)
      refine (implWeightOf_any _ _ _ _ _ _ _ _ _ hJ5 hK5).mono ?_
      rintro e w6 ⟨rfl, hb6⟩
      have hI6 := ((hI3.below hb4).below hb5).below hb6
      have hJ6 := hJ5.below hb6
      have hn4 := ho4.2.1
      go_wp2_with (fail)
      refine (toBoxS_any _ _ _ _ _ hI6 (by omega)).mono ?_
      rintro e w7 ⟨g7, n7, rfl, hg7, ho7, hb7⟩
      obtain rfl : n7 = n4 := by have := ho7.2.1; omega
      go_wp2_with (fail)
      refine (eqBoxS_same _ _ _ _ _ _ _ (hJ6.below hb7) ho7.boxes).mono ?_
      rintro e w8 ⟨rfl, hb8⟩
      have hZ8 := (((hZ4.below hb5).below hb6).below hb7).below hb8
      have hK8 := ((hK5.below hb6).below hb7).below hb8
      have he := eqL_self xs
      go_wp2_with (fail)
      refine (toIntS_any _ _ _ _ _ hZ8 (by omega)).mono ?_
      rintro e w9 ⟨g9, n9, rfl, hg9, ho9, hb9⟩
      go_wp2_with (fail)
      refine (eqIntS_any _ _ _ _ _ _ _ _ _ (hK8.below hb9) ho9.ints).mono ?_
      rintro e w10 ⟨rfl, hb10⟩
      go_wp2_with (fail)
      go_ret
      exact ⟨rfl, (by repeat' (first | with_reducible exact Below.refl _ _ | with_reducible assumption | with_reducible refine bel_step (by with_reducible assumption) ?_ ?_ | with_reducible refine Below.drew ?_ | with_reducible refine below_drewN ?_ _ | with_reducible refine Below.alloc ?_ ?_ _ | with_reducible refine Below.setCell ?_ ?_ _ | (simp; done) | (simp; omega) | omega | with_reducible refine below_le (by with_reducible assumption) ?_))⟩
end Go.Proofs.Ytbhmbmfhbeocoaa
