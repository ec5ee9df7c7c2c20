/- The walk of the law FnExactBoxText. Conditions: that strconv's table of powers of ten is as its text lays it. -/
import Derived.Test.YtbhmbmfhbeocoaaDoorBxTxt
namespace Go.Proofs.YtbhmbmfhbeocoaaDoor
open Go.RowKit
set_option linter.unusedVariables false

theorem str_beq' (a b : ByteArray) : (a.toList == b.toList) = decide (a = b) := by
  rw [Bool.eq_iff_iff, beq_iff_eq, decide_eq_true_iff]
  constructor
  · intro h
    apply ByteArray.ext
    apply Array.ext'
    rw [← Lib.toList_data, ← Lib.toList_data]
    exact h
  · rintro rfl
    rfl

set_option maxHeartbeats 1600000 in
theorem fnExactBoxText_walk (id wt cl po : Int) (co : Bool) (h0 : (Lit.int .i64 id).wf = true) (h1 : (Lit.int .i64 wt).wf = true) (h2 : (Lit.int .i64 cl).wf = true) (h3 : (Lit.int .i64 po).wf = true) (w : World) (hT : Tab w) :
    Calls Tryd.prog 3 #[.agg #[.int .i64 id, .int .i64 wt, .int .i64 cl, .int .i64 po, .bool co]] w fun e w' => e = .returned (.bool true) ∧ Below w.heap.size w w' := by
  clear h0 h1 h2 h3
  have HT := Lib.hid hT
  clear hT
  go_enter Tryd.func3, Tryd.ntmps3
  go_wp2_with (fail)
  refine (toBox_any _ _ _ _ _ _).mono ?_
  rintro e w1 ⟨rfl, hb1⟩
  have hg1 := held5 (g := w.heap.size) (x := .int .i64 id) (y := .int .i64 wt) (z := .int .i64 cl) (u := .int .i64 po) (v := .bool co) hb1 (by simp) (by go_simp)
  have y1 : w.heap.size < w1.heap.size := by have := hb1.size; simp at this; omega
  have hq1 : Below w.heap.size w w1 := (by repeat' (first | with_reducible exact Below.refl _ _ | with_reducible assumption | with_reducible refine bel_step (by with_reducible assumption) ?_ ?_ | with_reducible refine Below.drew ?_ | with_reducible refine below_drewN ?_ _ | with_reducible refine Below.alloc ?_ ?_ _ | with_reducible refine Below.setCell ?_ ?_ _ | (simp; done) | (simp; omega) | omega | with_reducible refine below_le (by with_reducible assumption) ?_))
  clear hb1
  go_wp2_with (fail)
  refine (specBoxText_any _ _ _ _ _ _).mono ?_
  rintro e w2 ⟨rfl, hb2⟩
  have hg2 := held5 hb2 y1 hg1
  have y2 : w.heap.size < w2.heap.size := Nat.lt_of_lt_of_le y1 hb2.size
  have hq2 := hq1.trans (hb2.mono hq1.size)
  obtain ⟨p0, p1, p2, p3, p4⟩ := hg2
  clear hb2 hg1 hq1
  go_wp2_with (fail)
  refine (toBox_any _ _ _ _ _ _).mono ?_
  rintro e w3 ⟨rfl, hb3⟩
  have hq3 := hq2.trans (hb3.mono hq2.size)
  clear hb3 hq2 p0 p1 p2 p3 p4
  go_wp2_with (fail)
  refine (implBoxText_any _ _ _ _ _ _ (tab_below HT.out hq3)).mono ?_
  rintro e w4 ⟨rfl, hb4⟩
  have hq4 := hq3.trans (hb4.mono hq3.size)
  clear hb4 hq3
  go_wp2_with (fail)
  go_ret
  exact ⟨rfl, hq4⟩
end Go.Proofs.YtbhmbmfhbeocoaaDoor
