/- The drawers of boxes: each draws some box, and turns only the reader's block. Conditions: as the reader's. -/
import Derived.Test.YtbhmbmfhbeocoaaDoorRd
import Derived.Test.YtbhmbmfhbeocoaaDoorStructs
namespace Go.Proofs.YtbhmbmfhbeocoaaDoor
open Go.RowKit
set_option linter.unusedVariables false

def BoxPost (w : World) (B g N : Nat) (e : Ending) (w' : World) : Prop :=
  ∃ y : Bx, e = .returned y.val ∧ RdOk w' B g N ∧ w.grownBy w' (some g)
theorem box_mk {w w' : World} {B g N M : Nat} {a b c d : Int} {co : Bool} (h1 : RdOk w' B g M) (h2 : M ≤ N) (h3 : w.grownBy w' (some g)) : BoxPost w B g N (.returned (.agg #[.int .i64 a, .int .i64 b, .int .i64 c, .int .i64 d, .bool co])) w' :=
  ⟨⟨a, b, c, d, co⟩, rfl, h1.more h2, h3⟩

set_option maxHeartbeats 3200000 in
theorem l20Box_any (B g N : Nat) (id n : Int) (w : World) (h : RdOk w B g N) (hN : N ≤ 100000) (hn' : n ≤ 1000) :
    Calls Tryd.prog 27 #[.pointer (some ⟨g, 0, none⟩), .int .i64 id, .int .i64 n] w (BoxPost w B g (N + 9)) := by
  have hlt := h.lt
  have hge := h.ge
  have ne0 : ¬ w.heap.size = g := by omega
  go_enter Tryd.func27, Tryd.ntmps27
  go_wp2_with (fail)
  refine (pick_any _ _ _ _ _ (by repeat' (first | with_reducible assumption | with_reducible apply RdOk.alloc | with_reducible apply RdOk.drew | with_reducible apply RdOk.drewN | with_reducible apply RdOk.setCell | (simp; done) | (simp; omega) | omega)) (by omega)).mono ?_; rintro e w1 ⟨x1, rfl, hx1, hy1, hr1, hg1⟩; obtain ⟨hc1, hf1⟩ := gcell hg1; have z1 := hg1.size; (try simp at z1); have hl1 := hr1.lt; (have hn1 : ¬ w1.heap.size = g := by omega); (have y1_0 : w.heap.size < w1.heap.size := by omega)
  go_wp2_with (fail)
  refine (pick_any _ _ _ _ _ (by repeat' (first | with_reducible assumption | with_reducible apply RdOk.alloc | with_reducible apply RdOk.drew | with_reducible apply RdOk.drewN | with_reducible apply RdOk.setCell | (simp; done) | (simp; omega) | omega)) (by omega)).mono ?_; rintro e w2 ⟨x2, rfl, hx2, hy2, hr2, hg2⟩; obtain ⟨hc2, hf2⟩ := gcell hg2; have z2 := hg2.size; (try simp at z2); have hl2 := hr2.lt; (have hn2 : ¬ w2.heap.size = g := by omega); (have y2_0 : w.heap.size < w2.heap.size := by omega)
  go_wp2_with (fail)
  refine (pick_any _ _ _ _ _ (by repeat' (first | with_reducible assumption | with_reducible apply RdOk.alloc | with_reducible apply RdOk.drew | with_reducible apply RdOk.drewN | with_reducible apply RdOk.setCell | (simp; done) | (simp; omega) | omega)) (by omega)).mono ?_; rintro e w3 ⟨x3, rfl, hx3, hy3, hr3, hg3⟩; obtain ⟨hc3, hf3⟩ := gcell hg3; have z3 := hg3.size; (try simp at z3); have hl3 := hr3.lt; (have hn3 : ¬ w3.heap.size = g := by omega); (have y3_0 : w.heap.size < w3.heap.size := by omega)
  go_wp2_with (fail)
  refine (pick_any _ _ _ _ _ (by repeat' (first | with_reducible assumption | with_reducible apply RdOk.alloc | with_reducible apply RdOk.drew | with_reducible apply RdOk.drewN | with_reducible apply RdOk.setCell | (simp; done) | (simp; omega) | omega)) (by omega)).mono ?_; rintro e w4 ⟨x4, rfl, hx4, hy4, hr4, hg4⟩; obtain ⟨hc4, hf4⟩ := gcell hg4; have z4 := hg4.size; (try simp at z4); have hl4 := hr4.lt; (have hn4 : ¬ w4.heap.size = g := by omega); (have y4_0 : w.heap.size < w4.heap.size := by omega); (have y4_1 : w3.heap.size < w4.heap.size := by omega)
  by_cases hx : x4 = 0
  · subst hx
    go_wp2_with (fail)
    refine (pick_any _ _ _ _ _ (by repeat' (first | with_reducible assumption | with_reducible apply RdOk.alloc | with_reducible apply RdOk.drew | with_reducible apply RdOk.drewN | with_reducible apply RdOk.setCell | (simp; done) | (simp; omega) | omega)) (by omega)).mono ?_; rintro e w5 ⟨x5, rfl, hx5, hy5, hr5, hg5⟩; obtain ⟨hc5, hf5⟩ := gcell hg5; have z5 := hg5.size; (try simp at z5); have hl5 := hr5.lt; (have hn5 : ¬ w5.heap.size = g := by omega); (have y5_0 : w.heap.size < w5.heap.size := by omega); (have y5_1 : w3.heap.size < w5.heap.size := by omega)
    have p2 : w5.cell? ⟨w3.heap.size, 2, none⟩ = some (.int .i64 0) := by go_simp
    go_wp2_with (fail)
    clear p2
    have p2 : w5.cell? ⟨w3.heap.size, 2, none⟩ = some (.int .i64 0) := by go_simp
    refine (odd_any _ _ _ _ _ (by repeat' (first | with_reducible assumption | with_reducible apply RdOk.alloc | with_reducible apply RdOk.drew | with_reducible apply RdOk.drewN | with_reducible apply RdOk.setCell | (simp; done) | (simp; omega) | omega)) (by omega) (by omega)).mono ?_; rintro e w6 ⟨x6, rfl, hr6, hg6⟩; obtain ⟨hc6, hf6⟩ := gcell hg6; have z6 := hg6.size; (try simp at z6); have hl6 := hr6.lt; (have hn6 : ¬ w6.heap.size = g := by omega); (have y6_0 : w.heap.size < w6.heap.size := by omega); (have y6_1 : w3.heap.size < w6.heap.size := by omega)
    cases x6 with
    | false =>
      have q0 : w6.cell? ⟨w.heap.size, 0, none⟩ = some (.int .i64 0) := by go_simp
      have q1 : w6.cell? ⟨w.heap.size, 1, none⟩ = some (.int .i64 0) := by go_simp
      have q2 : w6.cell? ⟨w.heap.size, 2, none⟩ = some (.int .i64 0) := by go_simp
      have q3 : w6.cell? ⟨w.heap.size, 3, none⟩ = some (.int .i64 0) := by go_simp
      have q4 : w6.cell? ⟨w.heap.size, 4, none⟩ = some (.bool false) := by go_simp
      have p0 : w6.cell? ⟨w3.heap.size, 0, none⟩ = some (.int .i64 id) := by go_simp
      have p1 : w6.cell? ⟨w3.heap.size, 1, none⟩ = some (.int .i64 (1 + x1)) := by go_simp
      have p2 : w6.cell? ⟨w3.heap.size, 2, none⟩ = some (.int .i64 x5) := by go_simp
      have p3 : w6.cell? ⟨w3.heap.size, 3, none⟩ = some (.int .i64 x2) := by go_simp
      have p4 : w6.cell? ⟨w3.heap.size, 4, none⟩ = some (.bool (x3 == 0)) := by go_simp
      go_wp2_with (fail)
      refine bodyPost_ret (v := ?_) ?_ rfl ?_
      rotate_left
      · simp [results, Tryd.results27, go_sem, q0, q1, q2, q3, q4]; rfl
      · refine box_mk (M := ?_) ?_ ?_ ?_
        rotate_left
        · (repeat' (first | with_reducible assumption | with_reducible apply RdOk.alloc | with_reducible apply RdOk.drew | with_reducible apply RdOk.drewN | with_reducible apply RdOk.setCell | (simp; done) | (simp; omega) | omega))
        · omega
        · (repeat' (first | with_reducible exact World.grownBy.refl _ _ | with_reducible assumption | with_reducible refine only_step (by with_reducible assumption) ?_ | with_reducible refine only_below (by with_reducible assumption) ?_ | with_reducible refine only_drew ?_ | with_reducible refine only_drewN ?_ _ | with_reducible refine only_alloc ?_ _ | with_reducible refine only_setCell ?_ ?_ _ | (simp; done) | (simp; omega) | omega))
    | true =>
      go_wp2_with (fail)
      refine (pick_any _ _ _ _ _ (by repeat' (first | with_reducible assumption | with_reducible apply RdOk.alloc | with_reducible apply RdOk.drew | with_reducible apply RdOk.drewN | with_reducible apply RdOk.setCell | (simp; done) | (simp; omega) | omega)) (by omega)).mono ?_; rintro e w7 ⟨x7, rfl, hx7, hy7, hr7, hg7⟩; obtain ⟨hc7, hf7⟩ := gcell hg7; have z7 := hg7.size; (try simp at z7); have hl7 := hr7.lt; (have hn7 : ¬ w7.heap.size = g := by omega); (have y7_0 : w.heap.size < w7.heap.size := by omega); (have y7_1 : w3.heap.size < w7.heap.size := by omega)
      rcases (show x7 = 0 ∨ x7 = 1 ∨ x7 = 2 ∨ x7 = 3 by omega) with rfl | rfl | rfl | rfl
      all_goals go_wp2_with (fail)
      all_goals
        refine (pick_any _ _ _ _ _ (by repeat' (first | with_reducible assumption | with_reducible apply RdOk.alloc | with_reducible apply RdOk.drew | with_reducible apply RdOk.drewN | with_reducible apply RdOk.setCell | (simp; done) | (simp; omega) | omega)) (by omega)).mono ?_; rintro e w8 ⟨x8, rfl, hx8, hy8, hr8, hg8⟩; obtain ⟨hc8, hf8⟩ := gcell hg8; have z8 := hg8.size; (try simp at z8); have hl8 := hr8.lt; (have hn8 : ¬ w8.heap.size = g := by omega); (have y8_0 : w.heap.size < w8.heap.size := by omega); (have y8_1 : w3.heap.size < w8.heap.size := by omega); (have y8_2 : w7.heap.size < w8.heap.size := by omega)
        have q0 : w8.cell? ⟨w.heap.size, 0, none⟩ = some (.int .i64 0) := by go_simp
        have q1 : w8.cell? ⟨w.heap.size, 1, none⟩ = some (.int .i64 0) := by go_simp
        have q2 : w8.cell? ⟨w.heap.size, 2, none⟩ = some (.int .i64 0) := by go_simp
        have q3 : w8.cell? ⟨w.heap.size, 3, none⟩ = some (.int .i64 0) := by go_simp
        have q4 : w8.cell? ⟨w.heap.size, 4, none⟩ = some (.bool false) := by go_simp
        have p0 : w8.cell? ⟨w3.heap.size, 0, none⟩ = some (.int .i64 id) := by go_simp
        have p1 : w8.cell? ⟨w3.heap.size, 1, none⟩ = some (.int .i64 (1 + x1)) := by go_simp
        have p2 : w8.cell? ⟨w3.heap.size, 2, none⟩ = some (.int .i64 x5) := by go_simp
        have p3 : w8.cell? ⟨w3.heap.size, 3, none⟩ = some (.int .i64 x2) := by go_simp
        have p4 : w8.cell? ⟨w3.heap.size, 4, none⟩ = some (.bool (x3 == 0)) := by go_simp
        rcases (show x8 = 0 ∨ x8 = 1 by omega) with rfl | rfl
      all_goals
        go_wp2_with (fail)
        refine bodyPost_ret (v := ?_) ?_ rfl ?_
        rotate_left
        · simp [results, Tryd.results27, go_sem, q0, q1, q2, q3, q4]; rfl
        · refine box_mk (M := ?_) ?_ ?_ ?_
          rotate_left
          · (repeat' (first | with_reducible assumption | with_reducible apply RdOk.alloc | with_reducible apply RdOk.drew | with_reducible apply RdOk.drewN | with_reducible apply RdOk.setCell | (simp; done) | (simp; omega) | omega))
          · omega
          · (repeat' (first | with_reducible exact World.grownBy.refl _ _ | with_reducible assumption | with_reducible refine only_step (by with_reducible assumption) ?_ | with_reducible refine only_below (by with_reducible assumption) ?_ | with_reducible refine only_drew ?_ | with_reducible refine only_drewN ?_ _ | with_reducible refine only_alloc ?_ _ | with_reducible refine only_setCell ?_ ?_ _ | (simp; done) | (simp; omega) | omega))
  · have hx' : (x4 == 0) = false := beq_eq_false_iff_ne.2 hx
    go_wp2_with (fail)
    refine (odd_any _ _ _ _ _ (by repeat' (first | with_reducible assumption | with_reducible apply RdOk.alloc | with_reducible apply RdOk.drew | with_reducible apply RdOk.drewN | with_reducible apply RdOk.setCell | (simp; done) | (simp; omega) | omega)) (by omega) (by omega)).mono ?_; rintro e w6 ⟨x6, rfl, hr6, hg6⟩; obtain ⟨hc6, hf6⟩ := gcell hg6; have z6 := hg6.size; (try simp at z6); have hl6 := hr6.lt; (have hn6 : ¬ w6.heap.size = g := by omega); (have y6_0 : w.heap.size < w6.heap.size := by omega); (have y6_1 : w3.heap.size < w6.heap.size := by omega)
    cases x6 with
    | false =>
      have q0 : w6.cell? ⟨w.heap.size, 0, none⟩ = some (.int .i64 0) := by go_simp
      have q1 : w6.cell? ⟨w.heap.size, 1, none⟩ = some (.int .i64 0) := by go_simp
      have q2 : w6.cell? ⟨w.heap.size, 2, none⟩ = some (.int .i64 0) := by go_simp
      have q3 : w6.cell? ⟨w.heap.size, 3, none⟩ = some (.int .i64 0) := by go_simp
      have q4 : w6.cell? ⟨w.heap.size, 4, none⟩ = some (.bool false) := by go_simp
      have p0 : w6.cell? ⟨w3.heap.size, 0, none⟩ = some (.int .i64 id) := by go_simp
      have p1 : w6.cell? ⟨w3.heap.size, 1, none⟩ = some (.int .i64 (1 + x1)) := by go_simp
      have p2 : w6.cell? ⟨w3.heap.size, 2, none⟩ = some (.int .i64 0) := by go_simp
      have p3 : w6.cell? ⟨w3.heap.size, 3, none⟩ = some (.int .i64 x2) := by go_simp
      have p4 : w6.cell? ⟨w3.heap.size, 4, none⟩ = some (.bool (x3 == 0)) := by go_simp
      go_wp2_with (fail)
      refine bodyPost_ret (v := ?_) ?_ rfl ?_
      rotate_left
      · simp [results, Tryd.results27, go_sem, q0, q1, q2, q3, q4]; rfl
      · refine box_mk (M := ?_) ?_ ?_ ?_
        rotate_left
        · (repeat' (first | with_reducible assumption | with_reducible apply RdOk.alloc | with_reducible apply RdOk.drew | with_reducible apply RdOk.drewN | with_reducible apply RdOk.setCell | (simp; done) | (simp; omega) | omega))
        · omega
        · (repeat' (first | with_reducible exact World.grownBy.refl _ _ | with_reducible assumption | with_reducible refine only_step (by with_reducible assumption) ?_ | with_reducible refine only_below (by with_reducible assumption) ?_ | with_reducible refine only_drew ?_ | with_reducible refine only_drewN ?_ _ | with_reducible refine only_alloc ?_ _ | with_reducible refine only_setCell ?_ ?_ _ | (simp; done) | (simp; omega) | omega))
    | true =>
      go_wp2_with (fail)
      refine (pick_any _ _ _ _ _ (by repeat' (first | with_reducible assumption | with_reducible apply RdOk.alloc | with_reducible apply RdOk.drew | with_reducible apply RdOk.drewN | with_reducible apply RdOk.setCell | (simp; done) | (simp; omega) | omega)) (by omega)).mono ?_; rintro e w7 ⟨x7, rfl, hx7, hy7, hr7, hg7⟩; obtain ⟨hc7, hf7⟩ := gcell hg7; have z7 := hg7.size; (try simp at z7); have hl7 := hr7.lt; (have hn7 : ¬ w7.heap.size = g := by omega); (have y7_0 : w.heap.size < w7.heap.size := by omega); (have y7_1 : w3.heap.size < w7.heap.size := by omega)
      rcases (show x7 = 0 ∨ x7 = 1 ∨ x7 = 2 ∨ x7 = 3 by omega) with rfl | rfl | rfl | rfl
      all_goals go_wp2_with (fail)
      all_goals
        refine (pick_any _ _ _ _ _ (by repeat' (first | with_reducible assumption | with_reducible apply RdOk.alloc | with_reducible apply RdOk.drew | with_reducible apply RdOk.drewN | with_reducible apply RdOk.setCell | (simp; done) | (simp; omega) | omega)) (by omega)).mono ?_; rintro e w8 ⟨x8, rfl, hx8, hy8, hr8, hg8⟩; obtain ⟨hc8, hf8⟩ := gcell hg8; have z8 := hg8.size; (try simp at z8); have hl8 := hr8.lt; (have hn8 : ¬ w8.heap.size = g := by omega); (have y8_0 : w.heap.size < w8.heap.size := by omega); (have y8_1 : w3.heap.size < w8.heap.size := by omega); (have y8_2 : w7.heap.size < w8.heap.size := by omega)
        have q0 : w8.cell? ⟨w.heap.size, 0, none⟩ = some (.int .i64 0) := by go_simp
        have q1 : w8.cell? ⟨w.heap.size, 1, none⟩ = some (.int .i64 0) := by go_simp
        have q2 : w8.cell? ⟨w.heap.size, 2, none⟩ = some (.int .i64 0) := by go_simp
        have q3 : w8.cell? ⟨w.heap.size, 3, none⟩ = some (.int .i64 0) := by go_simp
        have q4 : w8.cell? ⟨w.heap.size, 4, none⟩ = some (.bool false) := by go_simp
        have p0 : w8.cell? ⟨w3.heap.size, 0, none⟩ = some (.int .i64 id) := by go_simp
        have p1 : w8.cell? ⟨w3.heap.size, 1, none⟩ = some (.int .i64 (1 + x1)) := by go_simp
        have p2 : w8.cell? ⟨w3.heap.size, 2, none⟩ = some (.int .i64 0) := by go_simp
        have p3 : w8.cell? ⟨w3.heap.size, 3, none⟩ = some (.int .i64 x2) := by go_simp
        have p4 : w8.cell? ⟨w3.heap.size, 4, none⟩ = some (.bool (x3 == 0)) := by go_simp
        rcases (show x8 = 0 ∨ x8 = 1 by omega) with rfl | rfl
      all_goals
        go_wp2_with (fail)
        refine bodyPost_ret (v := ?_) ?_ rfl ?_
        rotate_left
        · simp [results, Tryd.results27, go_sem, q0, q1, q2, q3, q4]; rfl
        · refine box_mk (M := ?_) ?_ ?_ ?_
          rotate_left
          · (repeat' (first | with_reducible assumption | with_reducible apply RdOk.alloc | with_reducible apply RdOk.drew | with_reducible apply RdOk.drewN | with_reducible apply RdOk.setCell | (simp; done) | (simp; omega) | omega))
          · omega
          · (repeat' (first | with_reducible exact World.grownBy.refl _ _ | with_reducible assumption | with_reducible refine only_step (by with_reducible assumption) ?_ | with_reducible refine only_below (by with_reducible assumption) ?_ | with_reducible refine only_drew ?_ | with_reducible refine only_drewN ?_ _ | with_reducible refine only_alloc ?_ _ | with_reducible refine only_setCell ?_ ?_ _ | (simp; done) | (simp; omega) | omega))
end Go.Proofs.YtbhmbmfhbeocoaaDoor
