/- The walks of the laws FnExactPlanValid and FnExactPlanFind: each returns true and leaves the old memory alone. Conditions: that the slices read as boxes and integers. (Printed by wip/genexplan.py.) -/
import Derived.Test.YtfdnikmmfnhmbaaPlan3
namespace Go.Proofs.Ytfdnikmmfnhmbaa
open Go.RowKit
set_option linter.unusedVariables false

set_option maxHeartbeats 3200000 in
theorem fnExactPlanValid_walk (b r t : Int) (A : Option Addr) (n c : Nat) (bs : List Bx) (A' : Option Addr) (n' c' : Nat) (zs : List Int) (w : World) (wb : (Lit.int .i64 b).wf = true) (wr : (Lit.int .i64 r).wf = true) (wt : (Lit.int .i64 t).wf = true) (h : IsBoxes w A n c bs) (h' : IsRow .i64 w A' n' c' zs) :
    Calls Try.prog 4 #[.agg #[.int .i64 b, .int .i64 r, .int .i64 t], .slice A n c, .slice A' n' c'] w fun e w' => e = .returned (.bool true) ∧ Below w.heap.size w w' := by
  clear wb wr wt
  have hlen := h.len
  have H := Lib.hid h
  clear h
  have hZ := Ints.of_row h'
  obtain ⟨xs, hxs⟩ : ∃ xs, zs.take n' = xs := ⟨_, rfl⟩
  rw [hxs] at hZ
  have HZ := Lib.hid hZ
  have hlz := hZ.length
  clear h' hZ hxs
  by_cases hn' : (1048576 : Int) < n'
  · go_enter Try.func4, Try.ntmps4
    go_wp2_with (fail)
    go_ret
    exact ⟨rfl, (by repeat' (first | with_reducible exact Below.refl _ _ | with_reducible assumption | with_reducible refine bel_step (by with_reducible assumption) ?_ ?_ | with_reducible refine Below.drew ?_ | with_reducible refine below_drewN ?_ _ | with_reducible refine Below.alloc ?_ ?_ _ | with_reducible refine Below.setCell ?_ ?_ _ | (simp; done) | (simp; omega) | omega | with_reducible refine below_le (by with_reducible assumption) ?_))⟩
  · have hn1 : (n' : Int) ≤ 1048576 := by omega
    go_enter Try.func4, Try.ntmps4
    go_wp2_with (fail)
    refine (szBoxS_any _ _ _ _ _ (by omega) (by omega) hlen).mono ?_
    rintro e w0 ⟨rfl, hb0⟩
    have hq0 : Below w.heap.size w w0 := ((Below.refl _ _).alloc (Nat.le_refl _) _).trans (hb0.mono (by simp))
    by_cases hn : (1048576 : Int) - n < 0
    · rw [if_pos hn]
      go_wp2_with (fail)
      go_ret
      exact ⟨rfl, hq0⟩
    · rw [if_neg hn]
      have hI := H.out.below hq0
      have hZ := HZ.out.below hq0
      have hh : Hull3 w0 w.heap.size b r t := Hull3.below (w := w.alloc _) ⟨by simp, by go_simp, by go_simp, by go_simp⟩ hb0
      have he := eqL_self xs
      clear hb0
      have hh0 := hh
      obtain ⟨y3, p0, p1, p2⟩ := hh0
      go_wp2_with (fail)
      refine (toHull_any _ _ _ _).mono ?_
      rintro e w1 ⟨rfl, hq1⟩
      clear p0 p1 p2 y3
      have hI := hI.below hq1
      have hZ := hZ.below hq1
      have hh := hh.below hq1
      have hb1 := hq0.trans (hq1.mono hq0.size)
      have hs1 := hq1.size
      clear hq0 hq1
      have hh0 := hh
      obtain ⟨y3, p0, p1, p2⟩ := hh0
      go_wp2_with (fail)
      refine (toBoxS_any _ _ _ _ _ hI (by omega)).mono ?_
      rintro e w2 ⟨g2, n2, rfl, hg2, ho1, hq2⟩
      clear p0 p1 p2 y3
      have hI := hI.below hq2
      have hZ := hZ.below hq2
      have hh := hh.below hq2
      have hb2 := hb1.trans (hq2.mono hb1.size)
      have hs2 := hq2.size
      clear hb1 hq2
      have hh0 := hh
      obtain ⟨y3, p0, p1, p2⟩ := hh0
      go_wp2_with (fail)
      refine (toIntS_any _ _ _ _ _ hZ (by omega)).mono ?_
      rintro e w3 ⟨g3, n3, rfl, hg3, ho2, hq3⟩
      clear p0 p1 p2 y3
      have hI := hI.below hq3
      have hZ := hZ.below hq3
      have hh := hh.below hq3
      have ho1 := ho1.below hq3
      have hb3 := hb2.trans (hq3.mono hb2.size)
      have hs3 := hq3.size
      clear hb2 hq3
      have hh0 := hh
      obtain ⟨y3, p0, p1, p2⟩ := hh0
      go_wp2_with (fail)
      refine (specPlanValid_any _ _ _ _ _ _ _ _ _ _ _ _ ho1.boxes ho2.ints).mono ?_
      rintro e w4 ⟨rfl, hq4⟩
      clear p0 p1 p2 y3
      have hI := hI.below hq4
      have hZ := hZ.below hq4
      have hh := hh.below hq4
      have ho1 := ho1.below hq4
      have ho2 := ho2.below hq4
      have hb4 := hb3.trans (hq4.mono hb3.size)
      have hs4 := hq4.size
      clear hb3 hq4
      clear ho1 ho2
      have hh0 := hh
      obtain ⟨y3, p0, p1, p2⟩ := hh0
      go_wp2_with (fail)
      refine (toBoxS_any _ _ _ _ _ hI (by omega)).mono ?_
      rintro e w5 ⟨g5, n5, rfl, hg5, ho3, hq5⟩
      clear p0 p1 p2 y3
      have hI := hI.below hq5
      have hZ := hZ.below hq5
      have hh := hh.below hq5
      have hb5 := hb4.trans (hq5.mono hb4.size)
      have hs5 := hq5.size
      clear hb4 hq5
      have hh0 := hh
      obtain ⟨y3, p0, p1, p2⟩ := hh0
      go_wp2_with (fail)
      refine (toIntS_any _ _ _ _ _ hZ (by omega)).mono ?_
      rintro e w6 ⟨g6, n6, rfl, hg6, ho4, hq6⟩
      clear p0 p1 p2 y3
      have hI := hI.below hq6
      have hZ := hZ.below hq6
      have hh := hh.below hq6
      have ho3 := ho3.below hq6
      have hb6 := hb5.trans (hq6.mono hb5.size)
      have hs6 := hq6.size
      clear hb5 hq6
      have hh0 := hh
      obtain ⟨y3, p0, p1, p2⟩ := hh0
      go_wp2_with (fail)
      refine (toHull_any _ _ _ _).mono ?_
      rintro e w7 ⟨rfl, hq7⟩
      clear p0 p1 p2 y3
      have hI := hI.below hq7
      have hZ := hZ.below hq7
      have hh := hh.below hq7
      have ho3 := ho3.below hq7
      have ho4 := ho4.below hq7
      have hb7 := hb6.trans (hq7.mono hb6.size)
      have hs7 := hq7.size
      clear hb6 hq7
      have hh0 := hh
      obtain ⟨y3, p0, p1, p2⟩ := hh0
      go_wp2_with (fail)
      refine (implPlanValid_any _ _ _ _ _ _ _ _ _ _ _ _ ho3.boxes ho4.ints).mono ?_
      rintro e w8 ⟨rfl, hq8⟩
      clear p0 p1 p2 y3
      have hI := hI.below hq8
      have hZ := hZ.below hq8
      have hh := hh.below hq8
      have ho3 := ho3.below hq8
      have ho4 := ho4.below hq8
      have hb8 := hb7.trans (hq8.mono hb7.size)
      have hs8 := hq8.size
      clear hb7 hq8
      have hh0 := hh
      obtain ⟨y3, p0, p1, p2⟩ := hh0
      go_wp2_with (fail)
      refine (toBoxS_any _ _ _ _ _ hI (by omega)).mono ?_
      rintro e w9 ⟨g9, n9, rfl, hg9, ho5, hq9⟩
      clear p0 p1 p2 y3
      have hI := hI.below hq9
      have hZ := hZ.below hq9
      have hh := hh.below hq9
      have ho3 := ho3.below hq9
      have ho4 := ho4.below hq9
      have hb9 := hb8.trans (hq9.mono hb8.size)
      have hs9 := hq9.size
      clear hb8 hq9
      have ha1 := ho3.2.1
      have ha2 := ho5.2.1
      obtain rfl : n9 = n5 := by omega
      have hh0 := hh
      obtain ⟨y3, p0, p1, p2⟩ := hh0
      go_wp2_with (fail)
      refine (eqBoxS_same _ _ _ _ _ _ _ ho3.boxes ho5.boxes).mono ?_
      rintro e w10 ⟨rfl, hq10⟩
      clear p0 p1 p2 y3
      have hI := hI.below hq10
      have hZ := hZ.below hq10
      have hh := hh.below hq10
      have ho3 := ho3.below hq10
      have ho4 := ho4.below hq10
      have ho5 := ho5.below hq10
      have hb10 := hb9.trans (hq10.mono hb9.size)
      have hs10 := hq10.size
      clear hb9 hq10
      have hh0 := hh
      obtain ⟨y3, p0, p1, p2⟩ := hh0
      go_wp2_with (fail)
      refine (toIntS_any _ _ _ _ _ hZ (by omega)).mono ?_
      rintro e w11 ⟨g11, n11, rfl, hg11, ho6, hq11⟩
      clear p0 p1 p2 y3
      have hI := hI.below hq11
      have hZ := hZ.below hq11
      have hh := hh.below hq11
      have ho3 := ho3.below hq11
      have ho4 := ho4.below hq11
      have ho5 := ho5.below hq11
      have hb11 := hb10.trans (hq11.mono hb10.size)
      have hs11 := hq11.size
      clear hb10 hq11
      have hh0 := hh
      obtain ⟨y3, p0, p1, p2⟩ := hh0
      go_wp2_with (fail)
      refine (eqIntS_any _ _ _ _ _ _ _ _ _ ho4.ints ho6.ints).mono ?_
      rintro e w12 ⟨rfl, hq12⟩
      clear p0 p1 p2 y3
      have hI := hI.below hq12
      have hZ := hZ.below hq12
      have hh := hh.below hq12
      have ho3 := ho3.below hq12
      have ho4 := ho4.below hq12
      have ho5 := ho5.below hq12
      have ho6 := ho6.below hq12
      have hb12 := hb11.trans (hq12.mono hb11.size)
      have hs12 := hq12.size
      clear hb11 hq12
      go_wp2_with (fail)
      go_ret
      exact ⟨rfl, hb12⟩
set_option maxHeartbeats 3200000 in
theorem fnExactPlanFind_walk (b r t : Int) (A : Option Addr) (n c : Nat) (bs : List Bx) (A' : Option Addr) (n' c' : Nat) (zs : List Int) (id : Int) (w : World) (wb : (Lit.int .i64 b).wf = true) (wr : (Lit.int .i64 r).wf = true) (wt : (Lit.int .i64 t).wf = true) (h : IsBoxes w A n c bs) (h' : IsRow .i64 w A' n' c' zs) (wid : (Lit.int .i64 id).wf = true) :
    Calls Try.prog 5 #[.agg #[.int .i64 b, .int .i64 r, .int .i64 t], .slice A n c, .slice A' n' c', .int .i64 id] w fun e w' => e = .returned (.bool true) ∧ Below w.heap.size w w' := by
  clear wb wr wt wid
  have hlen := h.len
  have H := Lib.hid h
  clear h
  have hZ := Ints.of_row h'
  obtain ⟨xs, hxs⟩ : ∃ xs, zs.take n' = xs := ⟨_, rfl⟩
  rw [hxs] at hZ
  have HZ := Lib.hid hZ
  have hlz := hZ.length
  clear h' hZ hxs
  by_cases hn' : (1048576 : Int) < n'
  · go_enter Try.func5, Try.ntmps5
    go_wp2_with (fail)
    go_ret
    exact ⟨rfl, (by repeat' (first | with_reducible exact Below.refl _ _ | with_reducible assumption | with_reducible refine bel_step (by with_reducible assumption) ?_ ?_ | with_reducible refine Below.drew ?_ | with_reducible refine below_drewN ?_ _ | with_reducible refine Below.alloc ?_ ?_ _ | with_reducible refine Below.setCell ?_ ?_ _ | (simp; done) | (simp; omega) | omega | with_reducible refine below_le (by with_reducible assumption) ?_))⟩
  · have hn1 : (n' : Int) ≤ 1048576 := by omega
    go_enter Try.func5, Try.ntmps5
    go_wp2_with (fail)
    refine (szBoxS_any _ _ _ _ _ (by omega) (by omega) hlen).mono ?_
    rintro e w0 ⟨rfl, hb0⟩
    have hq0 : Below w.heap.size w w0 := ((Below.refl _ _).alloc (Nat.le_refl _) _).trans (hb0.mono (by simp))
    by_cases hn : (1048576 : Int) - n < 0
    · rw [if_pos hn]
      go_wp2_with (fail)
      go_ret
      exact ⟨rfl, hq0⟩
    · rw [if_neg hn]
      have hI := H.out.below hq0
      have hZ := HZ.out.below hq0
      have hh : Hull3 w0 w.heap.size b r t := Hull3.below (w := w.alloc _) ⟨by simp, by go_simp, by go_simp, by go_simp⟩ hb0
      have he := eqL_self xs
      clear hb0
      have hh0 := hh
      obtain ⟨y3, p0, p1, p2⟩ := hh0
      go_wp2_with (fail)
      refine (toHull_any _ _ _ _).mono ?_
      rintro e w1 ⟨rfl, hq1⟩
      clear p0 p1 p2 y3
      have hI := hI.below hq1
      have hZ := hZ.below hq1
      have hh := hh.below hq1
      have hb1 := hq0.trans (hq1.mono hq0.size)
      have hs1 := hq1.size
      clear hq0 hq1
      have hh0 := hh
      obtain ⟨y3, p0, p1, p2⟩ := hh0
      go_wp2_with (fail)
      refine (toBoxS_any _ _ _ _ _ hI (by omega)).mono ?_
      rintro e w2 ⟨g2, n2, rfl, hg2, ho1, hq2⟩
      clear p0 p1 p2 y3
      have hI := hI.below hq2
      have hZ := hZ.below hq2
      have hh := hh.below hq2
      have hb2 := hb1.trans (hq2.mono hb1.size)
      have hs2 := hq2.size
      clear hb1 hq2
      have hh0 := hh
      obtain ⟨y3, p0, p1, p2⟩ := hh0
      go_wp2_with (fail)
      refine (toIntS_any _ _ _ _ _ hZ (by omega)).mono ?_
      rintro e w3 ⟨g3, n3, rfl, hg3, ho2, hq3⟩
      clear p0 p1 p2 y3
      have hI := hI.below hq3
      have hZ := hZ.below hq3
      have hh := hh.below hq3
      have ho1 := ho1.below hq3
      have hb3 := hb2.trans (hq3.mono hb2.size)
      have hs3 := hq3.size
      clear hb2 hq3
      have hh0 := hh
      obtain ⟨y3, p0, p1, p2⟩ := hh0
      go_wp2_with (fail)
      refine (specPlanFind_any _ _ _ _ _ _ _ _ _ _ _ _ _ ho1.boxes ho2.ints).mono ?_
      rintro e w4 ⟨rfl, hq4⟩
      clear p0 p1 p2 y3
      have hI := hI.below hq4
      have hZ := hZ.below hq4
      have hh := hh.below hq4
      have ho1 := ho1.below hq4
      have ho2 := ho2.below hq4
      have hb4 := hb3.trans (hq4.mono hb3.size)
      have hs4 := hq4.size
      clear hb3 hq4
      clear ho1 ho2
      have hh0 := hh
      obtain ⟨y3, p0, p1, p2⟩ := hh0
      go_wp2_with (fail)
      refine (toBoxS_any _ _ _ _ _ hI (by omega)).mono ?_
      rintro e w5 ⟨g5, n5, rfl, hg5, ho3, hq5⟩
      clear p0 p1 p2 y3
      have hI := hI.below hq5
      have hZ := hZ.below hq5
      have hh := hh.below hq5
      have hb5 := hb4.trans (hq5.mono hb4.size)
      have hs5 := hq5.size
      clear hb4 hq5
      have hh0 := hh
      obtain ⟨y3, p0, p1, p2⟩ := hh0
      go_wp2_with (fail)
      refine (toIntS_any _ _ _ _ _ hZ (by omega)).mono ?_
      rintro e w6 ⟨g6, n6, rfl, hg6, ho4, hq6⟩
      clear p0 p1 p2 y3
      have hI := hI.below hq6
      have hZ := hZ.below hq6
      have hh := hh.below hq6
      have ho3 := ho3.below hq6
      have hb6 := hb5.trans (hq6.mono hb5.size)
      have hs6 := hq6.size
      clear hb5 hq6
      have hh0 := hh
      obtain ⟨y3, p0, p1, p2⟩ := hh0
      go_wp2_with (fail)
      refine (toHull_any _ _ _ _).mono ?_
      rintro e w7 ⟨rfl, hq7⟩
      clear p0 p1 p2 y3
      have hI := hI.below hq7
      have hZ := hZ.below hq7
      have hh := hh.below hq7
      have ho3 := ho3.below hq7
      have ho4 := ho4.below hq7
      have hb7 := hb6.trans (hq7.mono hb6.size)
      have hs7 := hq7.size
      clear hb6 hq7
      have hh0 := hh
      obtain ⟨y3, p0, p1, p2⟩ := hh0
      go_wp2_with (fail)
      refine (implPlanFind_any _ _ _ _ _ _ _ _ _ _ _ _ _ ho3.boxes ho4.ints).mono ?_
      rintro e w8 ⟨rfl, hq8⟩
      clear p0 p1 p2 y3
      have hI := hI.below hq8
      have hZ := hZ.below hq8
      have hh := hh.below hq8
      have ho3 := ho3.below hq8
      have ho4 := ho4.below hq8
      have hb8 := hb7.trans (hq8.mono hb7.size)
      have hs8 := hq8.size
      clear hb7 hq8
      have hh0 := hh
      obtain ⟨y3, p0, p1, p2⟩ := hh0
      go_wp2_with (fail)
      refine (toBoxS_any _ _ _ _ _ hI (by omega)).mono ?_
      rintro e w9 ⟨g9, n9, rfl, hg9, ho5, hq9⟩
      clear p0 p1 p2 y3
      have hI := hI.below hq9
      have hZ := hZ.below hq9
      have hh := hh.below hq9
      have ho3 := ho3.below hq9
      have ho4 := ho4.below hq9
      have hb9 := hb8.trans (hq9.mono hb8.size)
      have hs9 := hq9.size
      clear hb8 hq9
      have ha1 := ho3.2.1
      have ha2 := ho5.2.1
      obtain rfl : n9 = n5 := by omega
      have hh0 := hh
      obtain ⟨y3, p0, p1, p2⟩ := hh0
      go_wp2_with (fail)
      refine (eqBoxS_same _ _ _ _ _ _ _ ho3.boxes ho5.boxes).mono ?_
      rintro e w10 ⟨rfl, hq10⟩
      clear p0 p1 p2 y3
      have hI := hI.below hq10
      have hZ := hZ.below hq10
      have hh := hh.below hq10
      have ho3 := ho3.below hq10
      have ho4 := ho4.below hq10
      have ho5 := ho5.below hq10
      have hb10 := hb9.trans (hq10.mono hb9.size)
      have hs10 := hq10.size
      clear hb9 hq10
      have hh0 := hh
      obtain ⟨y3, p0, p1, p2⟩ := hh0
      go_wp2_with (fail)
      refine (toIntS_any _ _ _ _ _ hZ (by omega)).mono ?_
      rintro e w11 ⟨g11, n11, rfl, hg11, ho6, hq11⟩
      clear p0 p1 p2 y3
      have hI := hI.below hq11
      have hZ := hZ.below hq11
      have hh := hh.below hq11
      have ho3 := ho3.below hq11
      have ho4 := ho4.below hq11
      have ho5 := ho5.below hq11
      have hb11 := hb10.trans (hq11.mono hb10.size)
      have hs11 := hq11.size
      clear hb10 hq11
      have hh0 := hh
      obtain ⟨y3, p0, p1, p2⟩ := hh0
      go_wp2_with (fail)
      refine (eqIntS_any _ _ _ _ _ _ _ _ _ ho4.ints ho6.ints).mono ?_
      rintro e w12 ⟨rfl, hq12⟩
      clear p0 p1 p2 y3
      have hI := hI.below hq12
      have hZ := hZ.below hq12
      have hh := hh.below hq12
      have ho3 := ho3.below hq12
      have ho4 := ho4.below hq12
      have ho5 := ho5.below hq12
      have ho6 := ho6.below hq12
      have hb12 := hb11.trans (hq12.mono hb11.size)
      have hs12 := hq12.size
      clear hb11 hq12
      go_wp2_with (fail)
      go_ret
      exact ⟨rfl, hb12⟩
end Go.Proofs.Ytfdnikmmfnhmbaa
