/- The walk of the law FnExactYardFind: it returns true and leaves the old memory alone. Conditions: that the slices read as lists. (Printed by wip/genexyard.py.) -/
import Derived.Test.YteghialkkhmggaaYardF
namespace Go.Proofs.Yteghialkkhmggaa
open Go.RowKit
set_option linter.unusedVariables false

set_option maxHeartbeats 3200000 in
theorem fnExactYardFind_walk (hi : Int) (A : Option Addr) (n c : Nat) (sss : List (List Int)) (id : Int) (w : World) (wh : (Lit.int .i64 hi).wf = true) (h : IsStk w A n c sss) (wid : (Lit.int .i64 id).wf = true) :
    Calls Try.prog 4 #[.agg #[.int .i64 hi, .slice A n c], .int .i64 id] w fun e w' => e = .returned (.bool true) ∧ Below w.heap.size w w' := by
  clear wh wid
  have H := Lib.hid h
  clear h
  go_enter Try.func4, Try.ntmps4
  go_wp2_with (fail)
  refine (szYard_any _ _ _ _ _ _ _ (H.out.alloc _) (by omega) (by omega)).mono ?_
  rintro e w0 ⟨v0, rfl, hv, hb0⟩
  have hq0 : Below w.heap.size w w0 := ((Below.refl _ _).alloc (Nat.le_refl _) _).trans (hb0.mono (by simp))
  rcases hv with hv | ⟨hv0, hv1, hn1, hs1⟩
  · go_wp2_with (fail)
    go_ret
    exact ⟨rfl, hq0⟩
  · have Hs1 := Lib.hid hs1
    have hI := H.out.below hq0
    have hh : Yd w0 w.heap.size hi A n c := Yd.below (w := w.alloc _) ⟨by simp, by go_simp, by go_simp⟩ hb0
    clear hs1 hb0
    have hh0 := hh
    obtain ⟨y3, p0, p1⟩ := hh0
    go_wp2_with (fail)
    refine (toYard_any _ _ _ _ _ _ hI hn1 Hs1.out).mono ?_
    rintro e w1 ⟨g1, n1, rfl, hg1, ho1, hl1, hq1⟩
    clear p0 p1 y3
    have hI := hI.below hq1
    have hh := hh.below hq1
    have hb1 := hq0.trans (hq1.mono hq0.size)
    clear hq0 hq1
    have hm1 : n1 ≤ 1048576 := by have := hI.length; omega
    have hh0 := hh
    obtain ⟨y3, p0, p1⟩ := hh0
    go_wp2_with (fail)
    refine (specYardFind_any _ _ _ _ _ _ _ (ho1.stk hl1) hm1).mono ?_
    rintro e w2 ⟨rfl, hq2⟩
    clear p0 p1 y3
    have hI := hI.below hq2
    have hh := hh.below hq2
    have ho1 := ho1.below hq2
    have hb2 := hb1.trans (hq2.mono hb1.size)
    clear hb1 hq2
    clear ho1
    have hh0 := hh
    obtain ⟨y3, p0, p1⟩ := hh0
    go_wp2_with (fail)
    refine (toYard_any _ _ _ _ _ _ hI hn1 Hs1.out).mono ?_
    rintro e w3 ⟨g3, n3, rfl, hg3, ho3, hl3, hq3⟩
    clear p0 p1 y3
    have hI := hI.below hq3
    have hh := hh.below hq3
    have hb3 := hb2.trans (hq3.mono hb2.size)
    clear hb2 hq3
    have hz3 : Below w3.heap.size w3 (w3.alloc (.cells #[.int .i64 hi, .slice (some ⟨g3, 0, none⟩) n3 n3] 27)) := (Below.refl _ _).alloc (Nat.le_refl _) _
    have hI := hI.below hz3
    have hh := hh.below hz3
    have ho3 := ho3.below hz3
    have hx : Yd (w3.alloc (.cells #[.int .i64 hi, .slice (some ⟨g3, 0, none⟩) n3 n3] 27)) w3.heap.size hi (some ⟨g3, 0, none⟩) n3 n3 := ⟨by simp, by go_simp, by go_simp⟩
    have hc3 := hb3.trans (hz3.mono hb3.size)
    clear hb3 hz3
    have hh0 := hh
    obtain ⟨y3, p0, p1⟩ := hh0
    have hx0 := hx
    obtain ⟨y4, q0, q1⟩ := hx0
    go_wp2_with (fail)
    refine (implYardFind_any _ _ _ _ _ _ _ (ho3.stk hl3)).mono ?_
    rintro e w4 ⟨rfl, hq4⟩
    clear p0 p1 y3
    clear q0 q1 y4
    have hI := hI.below hq4
    have hh := hh.below hq4
    have ho3 := ho3.below hq4
    have hx := hx.below hq4
    have hb4 := hc3.trans (hq4.mono hc3.size)
    clear hc3 hq4
    have hstx := ho3.stk hl3
    have hsx : IsStk w4.drew (some ⟨g3, 0, none⟩) n3 n3 sss := hstx
    have hIx : IsStk w4.drew A n c sss := hI
    have hbx : Below w.heap.size w w4.drew := hb4.drew
    have hsz := hbx.size
    have Hsx := Lib.hid hsx
    have HIx := Lib.hid hIx
    have hh0 := hh
    obtain ⟨y3, p0, p1⟩ := hh0
    have hx0 := hx
    obtain ⟨y4, q0, q1⟩ := hx0
    go_wp2_with (fail)
    go_region_held3 (fun w' => w'.cell? ⟨w.heap.size, 0, none⟩ = some (.int .i64 hi) ∧ w'.cell? ⟨w.heap.size, 1, none⟩ = some (.slice A n c) ∧ w'.cell? ⟨w3.heap.size, 0, none⟩ = some (.int .i64 hi) ∧ w'.cell? ⟨w3.heap.size, 1, none⟩ = some (.slice (some ⟨g3, 0, none⟩) n3 n3)) (first | (go_keep; done) | exact ⟨e0, e1, e2, e3⟩ | exact ⟨f0, f1, f2, f3⟩)
      (first
        | (go_at_call 16; refine (eqYard_same _ _ _ _ _ _ _ _ hsv (ho5.stk hl5)).mono ?_; rintro e v2 ⟨rfl, hv2⟩
           have hv3 := Below.trans hv1 (hv2.mono hv1.size)
           have hb9 := hbx.trans (hv3.mono hsz)
           have f0 := (hv3.cell (p := ⟨w.heap.size, 0, none⟩) y3).trans p0; have f1 := (hv3.cell (p := ⟨w.heap.size, 1, none⟩) y3).trans p1; have f2 := (hv3.cell (p := ⟨w3.heap.size, 0, none⟩) y4).trans q0; have f3 := (hv3.cell (p := ⟨w3.heap.size, 1, none⟩) y4).trans q1)
        | (go_at_call 14; refine (toYard_any _ _ _ _ _ _ HIx.out hn1 Hs1.out).mono ?_; rintro e v1 ⟨g5, n5, rfl, hg5, ho5, hl5, hv1⟩
           obtain rfl : n5 = n3 := by omega
           have hsv := Hsx.out.below hv1
           have e0 := (hv1.cell (p := ⟨w.heap.size, 0, none⟩) y3).trans p0; have e1 := (hv1.cell (p := ⟨w.heap.size, 1, none⟩) y3).trans p1; have e2 := (hv1.cell (p := ⟨w3.heap.size, 0, none⟩) y4).trans q0; have e3 := (hv1.cell (p := ⟨w3.heap.size, 1, none⟩) y4).trans q1))
    all_goals go_wp2_with (fail)
    all_goals go_ret
    all_goals exact ⟨rfl, hb9⟩
end Go.Proofs.Yteghialkkhmggaa
