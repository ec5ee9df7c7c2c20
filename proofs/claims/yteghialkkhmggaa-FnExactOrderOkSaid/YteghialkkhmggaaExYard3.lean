/- The walks of the laws FnExactOrderOk and FnExactBlocking: each returns true and leaves the old memory alone. Conditions: that the slices read as lists. (Printed by wip/genexyard.py.) -/
import Derived.Test.YteghialkkhmggaaYardK2
namespace Go.Proofs.Yteghialkkhmggaa
open Go.RowKit
set_option linter.unusedVariables false

set_option maxHeartbeats 3200000 in
theorem fnExactOrderOk_walk (hi : Int) (A : Option Addr) (n c : Nat) (sss : List (List Int)) (A' : Option Addr) (n' c' : Nat) (zs : List Int) (w : World) (wh : (Lit.int .i64 hi).wf = true) (h : IsStk w A n c sss) (h' : IsRow .i64 w A' n' c' zs) :
    Calls Try.prog 6 #[.agg #[.int .i64 hi, .slice A n c], .slice A' n' c'] w fun e w' => e = .returned (.bool true) ∧ Below w.heap.size w w' := by
  clear wh
  have H := Lib.hid h
  clear h
  have hZ := Ints.of_row h'
  obtain ⟨xs, hxs⟩ : ∃ xs, zs.take n' = xs := ⟨_, rfl⟩
  rw [hxs] at hZ
  have HZ := Lib.hid hZ
  clear h' hZ hxs
  by_cases hn' : (1048576 : Int) < n'
  · go_enter Try.func6, Try.ntmps6
    go_wp2_with (fail)
    go_ret
    exact ⟨rfl, (by repeat' (first | with_reducible exact Below.refl _ _ | with_reducible assumption | with_reducible refine bel_step (by with_reducible assumption) ?_ ?_ | with_reducible refine Below.drew ?_ | with_reducible refine below_drewN ?_ _ | with_reducible refine Below.alloc ?_ ?_ _ | with_reducible refine Below.setCell ?_ ?_ _ | (simp; done) | (simp; omega) | omega | with_reducible refine below_le (by with_reducible assumption) ?_))⟩
  · have hn2 : (n' : Int) ≤ 1048576 := by omega
    go_enter Try.func6, Try.ntmps6
    go_wp2_with (fail)
    refine (szYard_any _ _ _ _ _ _ _ (H.out.alloc _) (by omega) (by omega)).mono ?_
    rintro e w0 ⟨v0, rfl, hv, hb0⟩
    have hq0 : Below w.heap.size w w0 := ((Below.refl _ _).alloc (Nat.le_refl _) _).trans (hb0.mono (by simp))
    rcases hv with hv | ⟨hv0, hv1, hn1, hs1⟩
    · go_wp2_with (fail)
      go_ret
      exact ⟨rfl, hq0⟩
    · have Hs1 := Lib.hid hs1
      have hI := H.out.below hq0
      have hh : Yd w0 w.heap.size hi A n c := Yd.below (w := w.alloc _) ⟨by simp, by go_simp, by go_simp⟩ hb0
      clear hs1 hb0
      have hZ := HZ.out.below hq0
      have he := eqL_self xs
      have hh0 := hh
      obtain ⟨y3, p0, p1⟩ := hh0
      go_wp2_with (fail)
      refine (toYard_any _ _ _ _ _ _ hI hn1 Hs1.out).mono ?_
      rintro e w1 ⟨g1, n1, rfl, hg1, ho1, hl1, hq1⟩
      clear p0 p1 y3
      have hI := hI.below hq1
      have hh := hh.below hq1
      have hZ := hZ.below hq1
      have hb1 := hq0.trans (hq1.mono hq0.size)
      clear hq0 hq1
      have hh0 := hh
      obtain ⟨y3, p0, p1⟩ := hh0
      go_wp2_with (fail)
      refine (toIntS_any _ _ _ _ _ hZ (by omega)).mono ?_
      rintro e w2 ⟨g2, n2, rfl, hg2, hz1, hq2⟩
      clear p0 p1 y3
      have hI := hI.below hq2
      have hh := hh.below hq2
      have hZ := hZ.below hq2
      have ho1 := ho1.below hq2
      have hb2 := hb1.trans (hq2.mono hb1.size)
      clear hb1 hq2
      have hm1 : n1 ≤ 1048576 := by have := hI.length; omega
      have hh0 := hh
      obtain ⟨y3, p0, p1⟩ := hh0
      go_wp2_with (fail)
      refine (specOrderOk_any _ _ _ _ _ _ _ _ _ _ (ho1.stk hl1) hz1.ints hm1).mono ?_
      rintro e w3 ⟨rfl, hq3⟩
      clear p0 p1 y3
      have hI := hI.below hq3
      have hh := hh.below hq3
      have hZ := hZ.below hq3
      have ho1 := ho1.below hq3
      have hz1 := hz1.below hq3
      have hb3 := hb2.trans (hq3.mono hb2.size)
      clear hb2 hq3
      clear ho1
      clear hz1
      have hh0 := hh
      obtain ⟨y3, p0, p1⟩ := hh0
      go_wp2_with (fail)
      refine (toYard_any _ _ _ _ _ _ hI hn1 Hs1.out).mono ?_
      rintro e w4 ⟨g4, n4, rfl, hg4, ho3, hl4, hq4⟩
      clear p0 p1 y3
      have hI := hI.below hq4
      have hh := hh.below hq4
      have hZ := hZ.below hq4
      have hb4 := hb3.trans (hq4.mono hb3.size)
      clear hb3 hq4
      have hz4 : Below w4.heap.size w4 (w4.alloc (.cells #[.int .i64 hi, .slice (some ⟨g4, 0, none⟩) n4 n4] 27)) := (Below.refl _ _).alloc (Nat.le_refl _) _
      have hI := hI.below hz4
      have hh := hh.below hz4
      have hZ := hZ.below hz4
      have ho3 := ho3.below hz4
      have hx : Yd (w4.alloc (.cells #[.int .i64 hi, .slice (some ⟨g4, 0, none⟩) n4 n4] 27)) w4.heap.size hi (some ⟨g4, 0, none⟩) n4 n4 := ⟨by simp, by go_simp, by go_simp⟩
      have hc4 := hb4.trans (hz4.mono hb4.size)
      clear hb4 hz4
      have hh0 := hh
      obtain ⟨y3, p0, p1⟩ := hh0
      have hx0 := hx
      obtain ⟨y4, q0, q1⟩ := hx0
      go_wp2_with (fail)
      refine (toIntS_any _ _ _ _ _ hZ (by omega)).mono ?_
      rintro e w5 ⟨g5, n5, rfl, hg5, hz3, hq5⟩
      clear p0 p1 y3
      clear q0 q1 y4
      have hI := hI.below hq5
      have hh := hh.below hq5
      have hZ := hZ.below hq5
      have ho3 := ho3.below hq5
      have hx := hx.below hq5
      have hb5 := hc4.trans (hq5.mono hc4.size)
      clear hc4 hq5
      have hh0 := hh
      obtain ⟨y3, p0, p1⟩ := hh0
      have hx0 := hx
      obtain ⟨y4, q0, q1⟩ := hx0
      go_wp2_with (fail)
      refine (implOrderOk_any _ _ _ _ _ _ _ _ _ _ (ho3.stk hl4) hz3.ints).mono ?_
      rintro e w6 ⟨rfl, hq6⟩
      clear p0 p1 y3
      clear q0 q1 y4
      have hI := hI.below hq6
      have hh := hh.below hq6
      have hZ := hZ.below hq6
      have ho3 := ho3.below hq6
      have hx := hx.below hq6
      have hz3 := hz3.below hq6
      have hb6 := hb5.trans (hq6.mono hb5.size)
      clear hb5 hq6
      have hstx := ho3.stk hl4
      have hsx : IsStk w6.drew (some ⟨g4, 0, none⟩) n4 n4 sss := hstx
      have hIx : IsStk w6.drew A n c sss := hI
      have hbx : Below w.heap.size w w6.drew := hb6.drew
      have hsz := hbx.size
      have Hsx := Lib.hid hsx
      have HIx := Lib.hid hIx
      have hZd : Ints w6.drew A' n' c' xs := hZ
      have hhd : Yd w6.drew w.heap.size hi A n c := hh
      have hz3d := OwnAt.below (w := w6) hz3 (Below.refl _ _).drew
      have HZd := Lib.hid hZd
      have Hhd := Lib.hid hhd
      have Hz3d := Lib.hid hz3d
      have hh0 := hh
      obtain ⟨y3, p0, p1⟩ := hh0
      have hx0 := hx
      obtain ⟨y4, q0, q1⟩ := hx0
      go_wp2_with (fail)
      go_region_held3 (fun w' => w'.cell? ⟨w.heap.size, 0, none⟩ = some (.int .i64 hi) ∧ w'.cell? ⟨w.heap.size, 1, none⟩ = some (.slice A n c) ∧ w'.cell? ⟨w4.heap.size, 0, none⟩ = some (.int .i64 hi) ∧ w'.cell? ⟨w4.heap.size, 1, none⟩ = some (.slice (some ⟨g4, 0, none⟩) n4 n4)) (first | (go_keep; done) | exact ⟨e0, e1, e2, e3⟩ | exact ⟨f0, f1, f2, f3⟩)
        (first
          | (go_at_call 16; refine (eqYard_same _ _ _ _ _ _ _ _ hsv (ho5.stk hl5)).mono ?_; rintro e v2 ⟨rfl, hv2⟩
             have hv3 := Below.trans hv1 (hv2.mono hv1.size)
             have hb9 := hbx.trans (hv3.mono hsz)
             have f0 := (hv3.cell (p := ⟨w.heap.size, 0, none⟩) y3).trans p0; have f1 := (hv3.cell (p := ⟨w.heap.size, 1, none⟩) y3).trans p1; have f2 := (hv3.cell (p := ⟨w4.heap.size, 0, none⟩) y4).trans q0; have f3 := (hv3.cell (p := ⟨w4.heap.size, 1, none⟩) y4).trans q1)
          | (go_at_call 14; refine (toYard_any _ _ _ _ _ _ HIx.out hn1 Hs1.out).mono ?_; rintro e v1 ⟨g5, n5, rfl, hg5, ho5, hl5, hv1⟩
             obtain rfl : n5 = n4 := by omega
             have hsv := Hsx.out.below hv1
             have e0 := (hv1.cell (p := ⟨w.heap.size, 0, none⟩) y3).trans p0; have e1 := (hv1.cell (p := ⟨w.heap.size, 1, none⟩) y3).trans p1; have e2 := (hv1.cell (p := ⟨w4.heap.size, 0, none⟩) y4).trans q0; have e3 := (hv1.cell (p := ⟨w4.heap.size, 1, none⟩) y4).trans q1))
      have hZ : Ints v2 A' n' c' xs := HZd.out.below hv3
      have hz3 := Hz3d.out.below hv3
      have hh : Yd v2 w.heap.size hi A n c := Hhd.out.below hv3
      clear p0 p1 y3 q0 q1 y4 f0 f1 f2 f3 e0 e1 e2 e3
      have hh0 := hh
      obtain ⟨y3, p0, p1⟩ := hh0
      go_wp2_with (fail)
      refine (toIntS_any _ _ _ _ _ hZ (by omega)).mono ?_
      rintro e w7 ⟨g7, n7, rfl, hg7, hz6, hq7⟩
      clear p0 p1 y3
      have hZ := hZ.below hq7
      have hz3 := hz3.below hq7
      have hh := hh.below hq7
      have hb7 := hb9.trans (hq7.mono hb9.size)
      clear hb9 hq7
      have hh0 := hh
      obtain ⟨y3, p0, p1⟩ := hh0
      go_wp2_with (fail)
      refine (eqIntS_any _ _ _ _ _ _ _ _ _ hz3.ints hz6.ints).mono ?_
      rintro e w8 ⟨rfl, hq8⟩
      clear p0 p1 y3
      have hZ := hZ.below hq8
      have hz3 := hz3.below hq8
      have hh := hh.below hq8
      have hz6 := hz6.below hq8
      have hb8 := hb7.trans (hq8.mono hb7.size)
      clear hb7 hq8
      have hh0 := hh
      obtain ⟨y3, p0, p1⟩ := hh0
      go_wp2_with (fail)
      go_ret
      exact ⟨rfl, hb8⟩
set_option maxHeartbeats 3200000 in
theorem fnExactBlocking_walk (hi : Int) (A : Option Addr) (n c : Nat) (sss : List (List Int)) (A' : Option Addr) (n' c' : Nat) (zs : List Int) (w : World) (wh : (Lit.int .i64 hi).wf = true) (h : IsStk w A n c sss) (h' : IsRow .i64 w A' n' c' zs) :
    Calls Try.prog 7 #[.agg #[.int .i64 hi, .slice A n c], .slice A' n' c'] w fun e w' => e = .returned (.bool true) ∧ Below w.heap.size w w' := by
  clear wh
  have H := Lib.hid h
  clear h
  have hZ := Ints.of_row h'
  obtain ⟨xs, hxs⟩ : ∃ xs, zs.take n' = xs := ⟨_, rfl⟩
  rw [hxs] at hZ
  have HZ := Lib.hid hZ
  clear h' hZ hxs
  by_cases hn' : (1048576 : Int) < n'
  · go_enter Try.func7, Try.ntmps7
    go_wp2_with (fail)
    go_ret
    exact ⟨rfl, (by repeat' (first | with_reducible exact Below.refl _ _ | with_reducible assumption | with_reducible refine bel_step (by with_reducible assumption) ?_ ?_ | with_reducible refine Below.drew ?_ | with_reducible refine below_drewN ?_ _ | with_reducible refine Below.alloc ?_ ?_ _ | with_reducible refine Below.setCell ?_ ?_ _ | (simp; done) | (simp; omega) | omega | with_reducible refine below_le (by with_reducible assumption) ?_))⟩
  · have hn2 : (n' : Int) ≤ 1048576 := by omega
    go_enter Try.func7, Try.ntmps7
    go_wp2_with (fail)
    refine (szYard_any _ _ _ _ _ _ _ (H.out.alloc _) (by omega) (by omega)).mono ?_
    rintro e w0 ⟨v0, rfl, hv, hb0⟩
    have hq0 : Below w.heap.size w w0 := ((Below.refl _ _).alloc (Nat.le_refl _) _).trans (hb0.mono (by simp))
    rcases hv with hv | ⟨hv0, hv1, hn1, hs1⟩
    · go_wp2_with (fail)
      go_ret
      exact ⟨rfl, hq0⟩
    · have Hs1 := Lib.hid hs1
      have hI := H.out.below hq0
      have hh : Yd w0 w.heap.size hi A n c := Yd.below (w := w.alloc _) ⟨by simp, by go_simp, by go_simp⟩ hb0
      clear hs1 hb0
      have hZ := HZ.out.below hq0
      have he := eqL_self xs
      have hh0 := hh
      obtain ⟨y3, p0, p1⟩ := hh0
      go_wp2_with (fail)
      refine (toYard_any _ _ _ _ _ _ hI hn1 Hs1.out).mono ?_
      rintro e w1 ⟨g1, n1, rfl, hg1, ho1, hl1, hq1⟩
      clear p0 p1 y3
      have hI := hI.below hq1
      have hh := hh.below hq1
      have hZ := hZ.below hq1
      have hb1 := hq0.trans (hq1.mono hq0.size)
      clear hq0 hq1
      have hh0 := hh
      obtain ⟨y3, p0, p1⟩ := hh0
      go_wp2_with (fail)
      refine (toIntS_any _ _ _ _ _ hZ (by omega)).mono ?_
      rintro e w2 ⟨g2, n2, rfl, hg2, hz1, hq2⟩
      clear p0 p1 y3
      have hI := hI.below hq2
      have hh := hh.below hq2
      have hZ := hZ.below hq2
      have ho1 := ho1.below hq2
      have hb2 := hb1.trans (hq2.mono hb1.size)
      clear hb1 hq2
      have hm1 : n1 ≤ 1048576 := by have := hI.length; omega
      have hh0 := hh
      obtain ⟨y3, p0, p1⟩ := hh0
      go_wp2_with (fail)
      refine (specBlocking_any _ _ _ _ _ _ _ _ _ _ (ho1.stk hl1) hz1.ints hm1).mono ?_
      rintro e w3 ⟨rfl, hq3⟩
      clear p0 p1 y3
      have hI := hI.below hq3
      have hh := hh.below hq3
      have hZ := hZ.below hq3
      have ho1 := ho1.below hq3
      have hz1 := hz1.below hq3
      have hb3 := hb2.trans (hq3.mono hb2.size)
      clear hb2 hq3
      clear ho1
      clear hz1
      have hh0 := hh
      obtain ⟨y3, p0, p1⟩ := hh0
      go_wp2_with (fail)
      refine (toYard_any _ _ _ _ _ _ hI hn1 Hs1.out).mono ?_
      rintro e w4 ⟨g4, n4, rfl, hg4, ho3, hl4, hq4⟩
      clear p0 p1 y3
      have hI := hI.below hq4
      have hh := hh.below hq4
      have hZ := hZ.below hq4
      have hb4 := hb3.trans (hq4.mono hb3.size)
      clear hb3 hq4
      have hz4 : Below w4.heap.size w4 (w4.alloc (.cells #[.int .i64 hi, .slice (some ⟨g4, 0, none⟩) n4 n4] 27)) := (Below.refl _ _).alloc (Nat.le_refl _) _
      have hI := hI.below hz4
      have hh := hh.below hz4
      have hZ := hZ.below hz4
      have ho3 := ho3.below hz4
      have hx : Yd (w4.alloc (.cells #[.int .i64 hi, .slice (some ⟨g4, 0, none⟩) n4 n4] 27)) w4.heap.size hi (some ⟨g4, 0, none⟩) n4 n4 := ⟨by simp, by go_simp, by go_simp⟩
      have hc4 := hb4.trans (hz4.mono hb4.size)
      clear hb4 hz4
      have hh0 := hh
      obtain ⟨y3, p0, p1⟩ := hh0
      have hx0 := hx
      obtain ⟨y4, q0, q1⟩ := hx0
      go_wp2_with (fail)
      refine (toIntS_any _ _ _ _ _ hZ (by omega)).mono ?_
      rintro e w5 ⟨g5, n5, rfl, hg5, hz3, hq5⟩
      clear p0 p1 y3
      clear q0 q1 y4
      have hI := hI.below hq5
      have hh := hh.below hq5
      have hZ := hZ.below hq5
      have ho3 := ho3.below hq5
      have hx := hx.below hq5
      have hb5 := hc4.trans (hq5.mono hc4.size)
      clear hc4 hq5
      have hh0 := hh
      obtain ⟨y3, p0, p1⟩ := hh0
      have hx0 := hx
      obtain ⟨y4, q0, q1⟩ := hx0
      go_wp2_with (fail)
      refine (implBlocking_any _ _ _ _ _ _ _ _ _ _ (ho3.stk hl4) hz3.ints).mono ?_
      rintro e w6 ⟨rfl, hq6⟩
      clear p0 p1 y3
      clear q0 q1 y4
      have hI := hI.below hq6
      have hh := hh.below hq6
      have hZ := hZ.below hq6
      have ho3 := ho3.below hq6
      have hx := hx.below hq6
      have hz3 := hz3.below hq6
      have hb6 := hb5.trans (hq6.mono hb5.size)
      clear hb5 hq6
      have hstx := ho3.stk hl4
      have hsx : IsStk w6.drew (some ⟨g4, 0, none⟩) n4 n4 sss := hstx
      have hIx : IsStk w6.drew A n c sss := hI
      have hbx : Below w.heap.size w w6.drew := hb6.drew
      have hsz := hbx.size
      have Hsx := Lib.hid hsx
      have HIx := Lib.hid hIx
      have hZd : Ints w6.drew A' n' c' xs := hZ
      have hhd : Yd w6.drew w.heap.size hi A n c := hh
      have hz3d := OwnAt.below (w := w6) hz3 (Below.refl _ _).drew
      have HZd := Lib.hid hZd
      have Hhd := Lib.hid hhd
      have Hz3d := Lib.hid hz3d
      have hh0 := hh
      obtain ⟨y3, p0, p1⟩ := hh0
      have hx0 := hx
      obtain ⟨y4, q0, q1⟩ := hx0
      go_wp2_with (fail)
      go_region_held3 (fun w' => w'.cell? ⟨w.heap.size, 0, none⟩ = some (.int .i64 hi) ∧ w'.cell? ⟨w.heap.size, 1, none⟩ = some (.slice A n c) ∧ w'.cell? ⟨w4.heap.size, 0, none⟩ = some (.int .i64 hi) ∧ w'.cell? ⟨w4.heap.size, 1, none⟩ = some (.slice (some ⟨g4, 0, none⟩) n4 n4)) (first | (go_keep; done) | exact ⟨e0, e1, e2, e3⟩ | exact ⟨f0, f1, f2, f3⟩)
        (first
          | (go_at_call 16; refine (eqYard_same _ _ _ _ _ _ _ _ hsv (ho5.stk hl5)).mono ?_; rintro e v2 ⟨rfl, hv2⟩
             have hv3 := Below.trans hv1 (hv2.mono hv1.size)
             have hb9 := hbx.trans (hv3.mono hsz)
             have f0 := (hv3.cell (p := ⟨w.heap.size, 0, none⟩) y3).trans p0; have f1 := (hv3.cell (p := ⟨w.heap.size, 1, none⟩) y3).trans p1; have f2 := (hv3.cell (p := ⟨w4.heap.size, 0, none⟩) y4).trans q0; have f3 := (hv3.cell (p := ⟨w4.heap.size, 1, none⟩) y4).trans q1)
          | (go_at_call 14; refine (toYard_any _ _ _ _ _ _ HIx.out hn1 Hs1.out).mono ?_; rintro e v1 ⟨g5, n5, rfl, hg5, ho5, hl5, hv1⟩
             obtain rfl : n5 = n4 := by omega
             have hsv := Hsx.out.below hv1
             have e0 := (hv1.cell (p := ⟨w.heap.size, 0, none⟩) y3).trans p0; have e1 := (hv1.cell (p := ⟨w.heap.size, 1, none⟩) y3).trans p1; have e2 := (hv1.cell (p := ⟨w4.heap.size, 0, none⟩) y4).trans q0; have e3 := (hv1.cell (p := ⟨w4.heap.size, 1, none⟩) y4).trans q1))
      have hZ : Ints v2 A' n' c' xs := HZd.out.below hv3
      have hz3 := Hz3d.out.below hv3
      have hh : Yd v2 w.heap.size hi A n c := Hhd.out.below hv3
      clear p0 p1 y3 q0 q1 y4 f0 f1 f2 f3 e0 e1 e2 e3
      have hh0 := hh
      obtain ⟨y3, p0, p1⟩ := hh0
      go_wp2_with (fail)
      refine (toIntS_any _ _ _ _ _ hZ (by omega)).mono ?_
      rintro e w7 ⟨g7, n7, rfl, hg7, hz6, hq7⟩
      clear p0 p1 y3
      have hZ := hZ.below hq7
      have hz3 := hz3.below hq7
      have hh := hh.below hq7
      have hb7 := hb9.trans (hq7.mono hb9.size)
      clear hb9 hq7
      have hh0 := hh
      obtain ⟨y3, p0, p1⟩ := hh0
      go_wp2_with (fail)
      refine (eqIntS_any _ _ _ _ _ _ _ _ _ hz3.ints hz6.ints).mono ?_
      rintro e w8 ⟨rfl, hq8⟩
      clear p0 p1 y3
      have hZ := hZ.below hq8
      have hz3 := hz3.below hq8
      have hh := hh.below hq8
      have hz6 := hz6.below hq8
      have hb8 := hb7.trans (hq8.mono hb7.size)
      clear hb7 hq8
      have hh0 := hh
      obtain ⟨y3, p0, p1⟩ := hh0
      go_wp2_with (fail)
      go_ret
      exact ⟨rfl, hb8⟩
end Go.Proofs.Yteghialkkhmggaa
