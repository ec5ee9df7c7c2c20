/- The drawers of hulls: each draws some hull, and turns only the reader's block. Conditions: as the reader's. -/
import Derived.Test.YtfdnikmmfnhmbaaRd
namespace Go.Proofs.Ytfdnikmmfnhmbaa
open Go.RowKit
set_option linter.unusedVariables false

def HullPost (w : World) (B g N : Nat) (e : Ending) (w' : World) : Prop :=
  ∃ b r t : Int, e = .returned (.agg #[.int .i64 b, .int .i64 r, .int .i64 t]) ∧ RdOk w' B g N ∧ w.grownBy w' (some g)

theorem hull_mk {w w' : World} {B g N M : Nat} {b r t : Int} (h1 : RdOk w' B g M) (h2 : M ≤ N) (h3 : w.grownBy w' (some g)) : HullPost w B g N (.returned (.agg #[.int .i64 b, .int .i64 r, .int .i64 t])) w' :=
  ⟨b, r, t, rfl, h1.more h2, h3⟩

set_option maxHeartbeats 1600000 in
theorem l20Hull_any (B g N : Nat) (n : Int) (w : World) (h : RdOk w B g N) (hN : N ≤ 1000) (hn' : n ≤ 1000) :
    Calls Try.prog 53 #[.pointer (some ⟨g, 0, none⟩), .int .i64 n] w (HullPost w B g (N + 6)) := by
  have hlt := h.lt
  have ne0 : ¬ w.heap.size = g := by omega
  go_enter Try.func53, Try.ntmps53
  go_wp2_with (fail)
  refine (pick_any _ _ _ _ _ (by repeat' (first | with_reducible assumption | with_reducible apply RdOk.alloc | with_reducible apply RdOk.drew | with_reducible apply RdOk.drewN | with_reducible apply RdOk.setCell | (simp; done) | (simp; omega) | omega)) (by omega)).mono ?_; rintro e w1 ⟨x1, rfl, hx1, hy1, hr1, hg1⟩; obtain ⟨hc1, hf1⟩ := gcell hg1; have z1 := hg1.size; (try simp at z1); have hl1 := hr1.lt; (have hn1 : ¬ w1.heap.size = g := by omega); (have y1_0 : w.heap.size < w1.heap.size := by omega)
  go_wp2_with (fail)
  refine (pick_any _ _ _ _ _ (by repeat' (first | with_reducible assumption | with_reducible apply RdOk.alloc | with_reducible apply RdOk.drew | with_reducible apply RdOk.drewN | with_reducible apply RdOk.setCell | (simp; done) | (simp; omega) | omega)) (by omega)).mono ?_; rintro e w2 ⟨x2, rfl, hx2, hy2, hr2, hg2⟩; obtain ⟨hc2, hf2⟩ := gcell hg2; have z2 := hg2.size; (try simp at z2); have hl2 := hr2.lt; (have hn2 : ¬ w2.heap.size = g := by omega); (have y2_0 : w.heap.size < w2.heap.size := by omega)
  go_wp2_with (fail)
  refine (pick_any _ _ _ _ _ (by repeat' (first | with_reducible assumption | with_reducible apply RdOk.alloc | with_reducible apply RdOk.drew | with_reducible apply RdOk.drewN | with_reducible apply RdOk.setCell | (simp; done) | (simp; omega) | omega)) (by omega)).mono ?_; rintro e w3 ⟨x3, rfl, hx3, hy3, hr3, hg3⟩; obtain ⟨hc3, hf3⟩ := gcell hg3; have z3 := hg3.size; (try simp at z3); have hl3 := hr3.lt; (have hn3 : ¬ w3.heap.size = g := by omega); (have y3_0 : w.heap.size < w3.heap.size := by omega)
  go_wp2_with (fail)
  refine (odd_any _ _ _ _ _ (by repeat' (first | with_reducible assumption | with_reducible apply RdOk.alloc | with_reducible apply RdOk.drew | with_reducible apply RdOk.drewN | with_reducible apply RdOk.setCell | (simp; done) | (simp; omega) | omega)) (by omega) (by omega)).mono ?_; rintro e w4 ⟨x4, rfl, hr4, hg4⟩; obtain ⟨hc4, hf4⟩ := gcell hg4; have z4 := hg4.size; (try simp at z4); have hl4 := hr4.lt; (have hn4 : ¬ w4.heap.size = g := by omega); (have y4_0 : w.heap.size < w4.heap.size := by omega); (have y4_1 : w3.heap.size < w4.heap.size := by omega)
  have hge := h.ge
  cases x4 with
  | false =>
    go_wp2_with (fail)
    have q0 : w4.cell? ⟨w.heap.size, 0, none⟩ = some (.int .i64 0) := by go_simp
    have q1 : w4.cell? ⟨w.heap.size, 1, none⟩ = some (.int .i64 0) := by go_simp
    have q2 : w4.cell? ⟨w.heap.size, 2, none⟩ = some (.int .i64 0) := by go_simp
    refine bodyPost_ret (v := .agg #[.int .i64 (1 + x1), .int .i64 (1 + x2), .int .i64 (1 + x3)]) (by simp [results, Try.results53, go_sem, q0, q1, q2]) rfl (hull_mk (M := N + 1 + 1 + 1 + 1) ?_ ?_ ?_)
    · (repeat' (first | with_reducible assumption | with_reducible apply RdOk.alloc | with_reducible apply RdOk.drew | with_reducible apply RdOk.drewN | with_reducible apply RdOk.setCell | (simp; done) | (simp; omega) | omega))
    · omega
    · (repeat' (first | with_reducible exact World.grownBy.refl _ _ | with_reducible assumption | with_reducible refine only_step (by with_reducible assumption) ?_ | with_reducible refine only_below (by with_reducible assumption) ?_ | with_reducible refine only_drew ?_ | with_reducible refine only_drewN ?_ _ | with_reducible refine only_alloc ?_ _ | with_reducible refine only_setCell ?_ ?_ _ | (simp; done) | (simp; omega) | omega))
  | true =>
    go_wp2_with (fail)
    refine (pick_any _ _ _ _ _ (by repeat' (first | with_reducible assumption | with_reducible apply RdOk.alloc | with_reducible apply RdOk.drew | with_reducible apply RdOk.drewN | with_reducible apply RdOk.setCell | (simp; done) | (simp; omega) | omega)) (by omega)).mono ?_; rintro e w5 ⟨x5, rfl, hx5, hy5, hr5, hg5⟩; obtain ⟨hc5, hf5⟩ := gcell hg5; have z5 := hg5.size; (try simp at z5); have hl5 := hr5.lt; (have hn5 : ¬ w5.heap.size = g := by omega); (have y5_0 : w.heap.size < w5.heap.size := by omega); (have y5_1 : w3.heap.size < w5.heap.size := by omega)
    rcases (show x5 = 0 ∨ x5 = 1 ∨ x5 = 2 by omega) with rfl | rfl | rfl
    · go_wp2_with (fail)
      refine (pick_any _ _ _ _ _ (by repeat' (first | with_reducible assumption | with_reducible apply RdOk.alloc | with_reducible apply RdOk.drew | with_reducible apply RdOk.drewN | with_reducible apply RdOk.setCell | (simp; done) | (simp; omega) | omega)) (by omega)).mono ?_; rintro e w6 ⟨x6, rfl, hx6, hy6, hr6, hg6⟩; obtain ⟨hc6, hf6⟩ := gcell hg6; have z6 := hg6.size; (try simp at z6); have hl6 := hr6.lt; (have hn6 : ¬ w6.heap.size = g := by omega); (have y6_0 : w.heap.size < w6.heap.size := by omega); (have y6_1 : w3.heap.size < w6.heap.size := by omega); (have y6_2 : w5.heap.size < w6.heap.size := by omega)
      have q0 : w6.cell? ⟨w.heap.size, 0, none⟩ = some (.int .i64 0) := by go_simp
      have q1 : w6.cell? ⟨w.heap.size, 1, none⟩ = some (.int .i64 0) := by go_simp
      have q2 : w6.cell? ⟨w.heap.size, 2, none⟩ = some (.int .i64 0) := by go_simp
      have p0 : w6.cell? ⟨w3.heap.size, 0, none⟩ = some (.int .i64 (1 + x1)) := by go_simp
      have p1 : w6.cell? ⟨w3.heap.size, 1, none⟩ = some (.int .i64 (1 + x2)) := by go_simp
      have p2 : w6.cell? ⟨w3.heap.size, 2, none⟩ = some (.int .i64 (1 + x3)) := by go_simp
      rcases (show x6 = 0 ∨ x6 = 1 by omega) with rfl | rfl
      · go_wp2_with (fail)
        refine bodyPost_ret (v := .agg #[.int .i64 0, .int .i64 (1 + x2), .int .i64 (1 + x3)]) (by simp [results, Try.results53, go_sem, q0, q1, q2]) rfl (hull_mk (M := N + 1 + 1 + 1 + 1 + 1 + 1) ?_ ?_ ?_)
        · (repeat' (first | with_reducible assumption | with_reducible apply RdOk.alloc | with_reducible apply RdOk.drew | with_reducible apply RdOk.drewN | with_reducible apply RdOk.setCell | (simp; done) | (simp; omega) | omega))
        · omega
        · (repeat' (first | with_reducible exact World.grownBy.refl _ _ | with_reducible assumption | with_reducible refine only_step (by with_reducible assumption) ?_ | with_reducible refine only_below (by with_reducible assumption) ?_ | with_reducible refine only_drew ?_ | with_reducible refine only_drewN ?_ _ | with_reducible refine only_alloc ?_ _ | with_reducible refine only_setCell ?_ ?_ _ | (simp; done) | (simp; omega) | omega))
      · go_wp2_with (fail)
        refine bodyPost_ret (v := .agg #[.int .i64 5, .int .i64 (1 + x2), .int .i64 (1 + x3)]) (by simp [results, Try.results53, go_sem, q0, q1, q2]) rfl (hull_mk (M := N + 1 + 1 + 1 + 1 + 1 + 1) ?_ ?_ ?_)
        · (repeat' (first | with_reducible assumption | with_reducible apply RdOk.alloc | with_reducible apply RdOk.drew | with_reducible apply RdOk.drewN | with_reducible apply RdOk.setCell | (simp; done) | (simp; omega) | omega))
        · omega
        · (repeat' (first | with_reducible exact World.grownBy.refl _ _ | with_reducible assumption | with_reducible refine only_step (by with_reducible assumption) ?_ | with_reducible refine only_below (by with_reducible assumption) ?_ | with_reducible refine only_drew ?_ | with_reducible refine only_drewN ?_ _ | with_reducible refine only_alloc ?_ _ | with_reducible refine only_setCell ?_ ?_ _ | (simp; done) | (simp; omega) | omega))
    · go_wp2_with (fail)
      refine (pick_any _ _ _ _ _ (by repeat' (first | with_reducible assumption | with_reducible apply RdOk.alloc | with_reducible apply RdOk.drew | with_reducible apply RdOk.drewN | with_reducible apply RdOk.setCell | (simp; done) | (simp; omega) | omega)) (by omega)).mono ?_; rintro e w6 ⟨x6, rfl, hx6, hy6, hr6, hg6⟩; obtain ⟨hc6, hf6⟩ := gcell hg6; have z6 := hg6.size; (try simp at z6); have hl6 := hr6.lt; (have hn6 : ¬ w6.heap.size = g := by omega); (have y6_0 : w.heap.size < w6.heap.size := by omega); (have y6_1 : w3.heap.size < w6.heap.size := by omega); (have y6_2 : w5.heap.size < w6.heap.size := by omega)
      have q0 : w6.cell? ⟨w.heap.size, 0, none⟩ = some (.int .i64 0) := by go_simp
      have q1 : w6.cell? ⟨w.heap.size, 1, none⟩ = some (.int .i64 0) := by go_simp
      have q2 : w6.cell? ⟨w.heap.size, 2, none⟩ = some (.int .i64 0) := by go_simp
      have p0 : w6.cell? ⟨w3.heap.size, 0, none⟩ = some (.int .i64 (1 + x1)) := by go_simp
      have p1 : w6.cell? ⟨w3.heap.size, 1, none⟩ = some (.int .i64 (1 + x2)) := by go_simp
      have p2 : w6.cell? ⟨w3.heap.size, 2, none⟩ = some (.int .i64 (1 + x3)) := by go_simp
      rcases (show x6 = 0 ∨ x6 = 1 by omega) with rfl | rfl
      · go_wp2_with (fail)
        refine bodyPost_ret (v := .agg #[.int .i64 (1 + x1), .int .i64 0, .int .i64 (1 + x3)]) (by simp [results, Try.results53, go_sem, q0, q1, q2]) rfl (hull_mk (M := N + 1 + 1 + 1 + 1 + 1 + 1) ?_ ?_ ?_)
        · (repeat' (first | with_reducible assumption | with_reducible apply RdOk.alloc | with_reducible apply RdOk.drew | with_reducible apply RdOk.drewN | with_reducible apply RdOk.setCell | (simp; done) | (simp; omega) | omega))
        · omega
        · (repeat' (first | with_reducible exact World.grownBy.refl _ _ | with_reducible assumption | with_reducible refine only_step (by with_reducible assumption) ?_ | with_reducible refine only_below (by with_reducible assumption) ?_ | with_reducible refine only_drew ?_ | with_reducible refine only_drewN ?_ _ | with_reducible refine only_alloc ?_ _ | with_reducible refine only_setCell ?_ ?_ _ | (simp; done) | (simp; omega) | omega))
      · go_wp2_with (fail)
        refine bodyPost_ret (v := .agg #[.int .i64 (1 + x1), .int .i64 4, .int .i64 (1 + x3)]) (by simp [results, Try.results53, go_sem, q0, q1, q2]) rfl (hull_mk (M := N + 1 + 1 + 1 + 1 + 1 + 1) ?_ ?_ ?_)
        · (repeat' (first | with_reducible assumption | with_reducible apply RdOk.alloc | with_reducible apply RdOk.drew | with_reducible apply RdOk.drewN | with_reducible apply RdOk.setCell | (simp; done) | (simp; omega) | omega))
        · omega
        · (repeat' (first | with_reducible exact World.grownBy.refl _ _ | with_reducible assumption | with_reducible refine only_step (by with_reducible assumption) ?_ | with_reducible refine only_below (by with_reducible assumption) ?_ | with_reducible refine only_drew ?_ | with_reducible refine only_drewN ?_ _ | with_reducible refine only_alloc ?_ _ | with_reducible refine only_setCell ?_ ?_ _ | (simp; done) | (simp; omega) | omega))
    · go_wp2_with (fail)
      refine (pick_any _ _ _ _ _ (by repeat' (first | with_reducible assumption | with_reducible apply RdOk.alloc | with_reducible apply RdOk.drew | with_reducible apply RdOk.drewN | with_reducible apply RdOk.setCell | (simp; done) | (simp; omega) | omega)) (by omega)).mono ?_; rintro e w6 ⟨x6, rfl, hx6, hy6, hr6, hg6⟩; obtain ⟨hc6, hf6⟩ := gcell hg6; have z6 := hg6.size; (try simp at z6); have hl6 := hr6.lt; (have hn6 : ¬ w6.heap.size = g := by omega); (have y6_0 : w.heap.size < w6.heap.size := by omega); (have y6_1 : w3.heap.size < w6.heap.size := by omega); (have y6_2 : w5.heap.size < w6.heap.size := by omega)
      have q0 : w6.cell? ⟨w.heap.size, 0, none⟩ = some (.int .i64 0) := by go_simp
      have q1 : w6.cell? ⟨w.heap.size, 1, none⟩ = some (.int .i64 0) := by go_simp
      have q2 : w6.cell? ⟨w.heap.size, 2, none⟩ = some (.int .i64 0) := by go_simp
      have p0 : w6.cell? ⟨w3.heap.size, 0, none⟩ = some (.int .i64 (1 + x1)) := by go_simp
      have p1 : w6.cell? ⟨w3.heap.size, 1, none⟩ = some (.int .i64 (1 + x2)) := by go_simp
      have p2 : w6.cell? ⟨w3.heap.size, 2, none⟩ = some (.int .i64 (1 + x3)) := by go_simp
      rcases (show x6 = 0 ∨ x6 = 1 by omega) with rfl | rfl
      · go_wp2_with (fail)
        refine bodyPost_ret (v := .agg #[.int .i64 (1 + x1), .int .i64 (1 + x2), .int .i64 (-1)]) (by simp [results, Try.results53, go_sem, q0, q1, q2]) rfl (hull_mk (M := N + 1 + 1 + 1 + 1 + 1 + 1) ?_ ?_ ?_)
        · (repeat' (first | with_reducible assumption | with_reducible apply RdOk.alloc | with_reducible apply RdOk.drew | with_reducible apply RdOk.drewN | with_reducible apply RdOk.setCell | (simp; done) | (simp; omega) | omega))
        · omega
        · (repeat' (first | with_reducible exact World.grownBy.refl _ _ | with_reducible assumption | with_reducible refine only_step (by with_reducible assumption) ?_ | with_reducible refine only_below (by with_reducible assumption) ?_ | with_reducible refine only_drew ?_ | with_reducible refine only_drewN ?_ _ | with_reducible refine only_alloc ?_ _ | with_reducible refine only_setCell ?_ ?_ _ | (simp; done) | (simp; omega) | omega))
      · go_wp2_with (fail)
        refine bodyPost_ret (v := .agg #[.int .i64 (1 + x1), .int .i64 (1 + x2), .int .i64 4]) (by simp [results, Try.results53, go_sem, q0, q1, q2]) rfl (hull_mk (M := N + 1 + 1 + 1 + 1 + 1 + 1) ?_ ?_ ?_)
        · (repeat' (first | with_reducible assumption | with_reducible apply RdOk.alloc | with_reducible apply RdOk.drew | with_reducible apply RdOk.drewN | with_reducible apply RdOk.setCell | (simp; done) | (simp; omega) | omega))
        · omega
        · (repeat' (first | with_reducible exact World.grownBy.refl _ _ | with_reducible assumption | with_reducible refine only_step (by with_reducible assumption) ?_ | with_reducible refine only_below (by with_reducible assumption) ?_ | with_reducible refine only_drew ?_ | with_reducible refine only_drewN ?_ _ | with_reducible refine only_alloc ?_ _ | with_reducible refine only_setCell ?_ ?_ _ | (simp; done) | (simp; omega) | omega))

def DrawHull (w : World) (e : Ending) (w' : World) : Prop :=
  ∃ b r t : Int, e = .returned (.agg #[.int .i64 b, .int .i64 r, .int .i64 t]) ∧ Below w.heap.size w w'

set_option maxHeartbeats 800000 in
theorem drawPlanEmpty_any (A : Option Addr) (n c : Nat) (zs : List Int) (w : World) (h : IsRow .u8 w A n c zs) :
    Calls Try.prog 31 #[.slice A n c] w (DrawHull w) := by
  have H := Lib.hid (h.alloc (.cells #[.int .i64 0, .int .i64 0, .int .i64 0] 26))
  clear h
  go_enter Try.func31, Try.ntmps31
  go_wp2_with (fail)
  refine (l20Open_any _ _ _ _ _ (H.out)).mono ?_; rintro e w1 ⟨g, rfl, hr1, hb1⟩; obtain ⟨hc1, hf1⟩ := bcell hb1; have z1 := hb1.size; (try simp at z1); have hl1 := hr1.lt; have hge1 := hr1.ge; (try simp at hge1); (have hn1 : ¬ w1.heap.size = g := by omega); (have nb1_0 : ¬ w.heap.size = g := by omega); (have y1_0 : w.heap.size < w1.heap.size := by omega)
  go_wp2_with (fail)
  refine (l20Hull_any _ _ _ _ _ (by repeat' (first | with_reducible assumption | with_reducible apply RdOk.alloc | with_reducible apply RdOk.drew | with_reducible apply RdOk.drewN | with_reducible apply RdOk.setCell | (simp; done) | (simp; omega) | omega)) (by omega) (by omega)).mono ?_; rintro e w2 ⟨b, r, t, rfl, hr2, hg2⟩; obtain ⟨hc2, hf2⟩ := gcell hg2; have z2 := hg2.size; (try simp at z2); have hl2 := hr2.lt; (have hn2 : ¬ w2.heap.size = g := by omega); (have y2_0 : w.heap.size < w2.heap.size := by omega)
  have q0 : w2.cell? ⟨w.heap.size, 0, none⟩ = some (.int .i64 0) := by go_simp
  have q1 : w2.cell? ⟨w.heap.size, 1, none⟩ = some (.int .i64 0) := by go_simp
  have q2 : w2.cell? ⟨w.heap.size, 2, none⟩ = some (.int .i64 0) := by go_simp
  go_wp2_with (fail)
  refine bodyPost_ret (v := .agg #[.int .i64 b, .int .i64 r, .int .i64 t]) (by simp [results, Try.results31, go_sem, q0, q1, q2]) rfl ⟨b, r, t, rfl, ?_⟩
  exact (by repeat' (first | with_reducible exact Below.refl _ _ | with_reducible assumption | with_reducible refine bel_step (by with_reducible assumption) ?_ ?_ | with_reducible refine below_grown_step (by with_reducible assumption) ?_ ?_ ?_ | with_reducible refine Below.drew ?_ | with_reducible refine below_drewN ?_ _ | with_reducible refine Below.alloc ?_ ?_ _ | with_reducible refine Below.setCell ?_ ?_ _ | (simp; done) | (simp; omega) | omega | with_reducible refine below_le (by with_reducible assumption) ?_))

end Go.Proofs.Ytfdnikmmfnhmbaa
