/- The drawers of a hull with a place or a slot: some hull and some numbers, and nothing old turned. Conditions: none. -/
import Derived.Test.YtdmokkabkobjmaaDrHull
import Derived.Test.YtdmokkabkobjmaaHull
namespace Go.Proofs.Ytdmokkabkobjmaa
open Go.RowKit
set_option linter.unusedVariables false

def DrawSlot (w : World) (e : Ending) (w' : World) : Prop :=
  ∃ b r t x y z : Int, e = .returned (.tuple #[.agg #[.int .i64 b, .int .i64 r, .int .i64 t], .int .i64 x, .int .i64 y, .int .i64 z]) ∧ Below w.heap.size w w'
set_option maxHeartbeats 800000 in
theorem drawSlotOf_any (A : Option Addr) (n c : Nat) (zs : List Int) (w : World) (h : IsRow .u8 w A n c zs) :
    Calls Try.prog 27 #[.slice A n c] w (DrawSlot w) := by
  have H := Lib.hid (h.alloc (.cells #[.int .i64 0, .int .i64 0, .int .i64 0] 25))
  clear h
  go_enter Try.func27, Try.ntmps27
  go_wp2_with (fail)
  refine (l20Open_any _ _ _ _ _ (H.out)).mono ?_; rintro e w1 ⟨g, rfl, hr1, hb1⟩; obtain ⟨hc1, hf1⟩ := bcell hb1; have z1 := hb1.size; (try simp at z1); have hl1 := hr1.lt; have hge1 := hr1.ge; (try simp at hge1); (have hn1 : ¬ w1.heap.size = g := by omega); (have nb1_0 : ¬ w.heap.size = g := by omega); (have y1_0 : w.heap.size < w1.heap.size := by omega)
  go_wp2_with (fail)
  refine (l20Hull_any _ _ _ _ _ (by repeat (first | assumption | apply RdOk.alloc | apply RdOk.drew | apply RdOk.drewN)) (by omega) (by omega)).mono ?_; rintro e w2 ⟨b, r, t, rfl, hr2, hg2⟩; obtain ⟨hc2, hf2⟩ := gcell hg2; have z2 := hg2.size; (try simp at z2); have hl2 := hr2.lt; (have hn2 : ¬ w2.heap.size = g := by omega); (have y2_0 : w.heap.size < w2.heap.size := by omega)
  go_wp2_with (fail)
  refine (pick_any _ _ _ _ _ (by repeat (first | assumption | apply RdOk.alloc | apply RdOk.drew | apply RdOk.drewN)) (by omega)).mono ?_; rintro e w3 ⟨x3, rfl, hx3, hy3, hr3, hg3⟩; obtain ⟨hc3, hf3⟩ := gcell hg3; have z3 := hg3.size; (try simp at z3); have hl3 := hr3.lt; (have hn3 : ¬ w3.heap.size = g := by omega); (have y3_0 : w.heap.size < w3.heap.size := by omega)
  go_wp2_with (fail)
  refine (pick_any _ _ _ _ _ (by repeat (first | assumption | apply RdOk.alloc | apply RdOk.drew | apply RdOk.drewN)) (by omega)).mono ?_; rintro e w4 ⟨x4, rfl, hx4, hy4, hr4, hg4⟩; obtain ⟨hc4, hf4⟩ := gcell hg4; have z4 := hg4.size; (try simp at z4); have hl4 := hr4.lt; (have hn4 : ¬ w4.heap.size = g := by omega); (have y4_0 : w.heap.size < w4.heap.size := by omega)
  go_wp2_with (fail)
  refine (pick_any _ _ _ _ _ (by repeat (first | assumption | apply RdOk.alloc | apply RdOk.drew | apply RdOk.drewN)) (by omega)).mono ?_; rintro e w5 ⟨x5, rfl, hx5, hy5, hr5, hg5⟩; obtain ⟨hc5, hf5⟩ := gcell hg5; have z5 := hg5.size; (try simp at z5); have hl5 := hr5.lt; (have hn5 : ¬ w5.heap.size = g := by omega); (have y5_0 : w.heap.size < w5.heap.size := by omega)
  go_wp2_with (fail)
  refine (pick_any _ _ _ _ _ (by repeat (first | assumption | apply RdOk.alloc | apply RdOk.drew | apply RdOk.drewN)) (by omega)).mono ?_; rintro e w6 ⟨x6, rfl, hx6, hy6, hr6, hg6⟩; obtain ⟨hc6, hf6⟩ := gcell hg6; have z6 := hg6.size; (try simp at z6); have hl6 := hr6.lt; (have hn6 : ¬ w6.heap.size = g := by omega); (have y6_0 : w.heap.size < w6.heap.size := by omega)
  go_wp2_with (fail)
  refine (pick_any _ _ _ _ _ (by repeat (first | assumption | apply RdOk.alloc | apply RdOk.drew | apply RdOk.drewN)) (by omega)).mono ?_; rintro e w7 ⟨x7, rfl, hx7, hy7, hr7, hg7⟩; obtain ⟨hc7, hf7⟩ := gcell hg7; have z7 := hg7.size; (try simp at z7); have hl7 := hr7.lt; (have hn7 : ¬ w7.heap.size = g := by omega); (have y7_0 : w.heap.size < w7.heap.size := by omega)
  go_wp2_with (fail)
  refine (pick_any _ _ _ _ _ (by repeat (first | assumption | apply RdOk.alloc | apply RdOk.drew | apply RdOk.drewN)) (by omega)).mono ?_; rintro e w8 ⟨x8, rfl, hx8, hy8, hr8, hg8⟩; obtain ⟨hc8, hf8⟩ := gcell hg8; have z8 := hg8.size; (try simp at z8); have hl8 := hr8.lt; (have hn8 : ¬ w8.heap.size = g := by omega); (have y8_0 : w.heap.size < w8.heap.size := by omega)
  have q0 : w8.cell? ⟨w.heap.size, 0, none⟩ = some (.int .i64 0) := by go_simp
  have q1 : w8.cell? ⟨w.heap.size, 1, none⟩ = some (.int .i64 0) := by go_simp
  have q2 : w8.cell? ⟨w.heap.size, 2, none⟩ = some (.int .i64 0) := by go_simp
  go_wp2_with (fail)
  refine bodyPost_ret (v := .tuple #[.agg #[.int .i64 b, .int .i64 r, .int .i64 t], .int .i64 (x3 - x4 / 8), .int .i64 (x5 - x6 / 8), .int .i64 (x7 - x8 / 8)]) (by simp [results, Try.results27, go_sem, q0, q1, q2]) rfl ⟨b, r, t, _, _, _, rfl, ?_⟩
  exact (by repeat' (first | with_reducible exact Below.refl _ _ | with_reducible assumption | with_reducible refine bel_step (by with_reducible assumption) ?_ ?_ | with_reducible refine below_grown_step (by with_reducible assumption) ?_ ?_ ?_ | with_reducible refine Below.drew ?_ | with_reducible refine below_drewN ?_ _ | with_reducible refine Below.alloc ?_ ?_ _ | with_reducible refine Below.setCell ?_ ?_ _ | (simp; done) | (simp; omega) | omega | with_reducible refine below_le (by with_reducible assumption) ?_))
def DrawPlace (w : World) (e : Ending) (w' : World) : Prop :=
  ∃ b r t x : Int, e = .returned (.tuple #[.agg #[.int .i64 b, .int .i64 r, .int .i64 t], .int .i64 x]) ∧ Below w.heap.size w w'
theorem slotManyV_range (b r t : Int) : -1 ≤ slotManyV b r t ∧ slotManyV b r t ≤ 36 := by
  unfold slotManyV
  split
  · rename_i h
    obtain ⟨⟨hb, hb'⟩, ⟨hr, hr'⟩, ht, ht'⟩ := hullB_iff.1 h
    obtain ⟨p1, p2⟩ := mul_small (a := b) (b := r) (A := 4) (B := 3) (by omega) hb' (by omega) hr'
    obtain ⟨p3, p4⟩ := mul_small (a := b * r) (b := t) (A := 12) (B := 3) (by omega) (by omega) (by omega) ht'
    omega
  · omega
set_option maxHeartbeats 800000 in
theorem drawPlaceOf_any (A : Option Addr) (n c : Nat) (zs : List Int) (w : World) (h : IsRow .u8 w A n c zs) :
    Calls Try.prog 28 #[.slice A n c] w (DrawPlace w) := by
  have H := Lib.hid ((h.alloc (.cells #[.int .i64 0, .int .i64 0, .int .i64 0] 25)))
  clear h
  go_enter Try.func28, Try.ntmps28
  go_wp2_with (fail)
  refine (l20Open_any _ _ _ _ _ (H.out)).mono ?_; rintro e w1 ⟨g, rfl, hr1, hb1⟩; obtain ⟨hc1, hf1⟩ := bcell hb1; have z1 := hb1.size; (try simp at z1); have hl1 := hr1.lt; have hge1 := hr1.ge; (try simp at hge1); (have hn1 : ¬ w1.heap.size = g := by omega); (have nb1_0 : ¬ w.heap.size = g := by omega); (have y1_0 : w.heap.size < w1.heap.size := by omega)
  go_wp2_with (fail)
  refine (l20Hull_any _ _ _ _ _ (by repeat (first | assumption | apply RdOk.alloc | apply RdOk.drew | apply RdOk.drewN)) (by omega) (by omega)).mono ?_; rintro e w2 ⟨b, r, t, rfl, hr2, hg2⟩; obtain ⟨hc2, hf2⟩ := gcell hg2; have z2 := hg2.size; (try simp at z2); have hl2 := hr2.lt; (have hn2 : ¬ w2.heap.size = g := by omega); (have y2_0 : w.heap.size < w2.heap.size := by omega)
  have hm := slotManyV_range b r t
  have hmax : ∃ m : Int, (if slotManyV b r t < 1 then 1 else slotManyV b r t) = m ∧ 1 ≤ m ∧ m ≤ 36 := ⟨_, rfl, by split <;> omega, by split <;> omega⟩
  obtain ⟨m, hm1, hm2, hm3⟩ := hmax
  have hw1 : IntKind.i64.wrap (m + 1) = m + 1 := IntWalk.i64_in _ (by omega)
  go_wp2_with (fail)
  have hb0 := hn2
  have hrs : w.heap.size ≠ w2.heap.size := by omega
  have tok1 : True := trivial
  go_region_held3 (fun w' => w'.cell? ⟨w2.heap.size, 0, none⟩ = some (.int .i64 b) ∧ w'.cell? ⟨w2.heap.size, 1, none⟩ = some (.int .i64 r) ∧ w'.cell? ⟨w2.heap.size, 2, none⟩ = some (.int .i64 t))
    (first | (go_keep; done) | exact held3 hb3 (by first | assumption | (simp; done)) (by first | assumption | (simp [*]; done)) | exact gheld3 hg4 (by assumption) (by assumption) (by assumption) | exact gheld3 hg5 (by assumption) (by assumption) (by assumption) | exact sheld3 hrs (sheld3 hrs (sheld3 hrs (by assumption))))
    (first
      | (go_at_call 18; refine (specSlotMany_any _ _ _ _).mono ?_; rintro e w3 ⟨rfl, hb3⟩; have hr3 := RdOk.keep (hr2.alloc _).drew hb3; obtain ⟨hc3, hf3⟩ := bcell hb3; have z3 := hb3.size; (try simp at z3); (have y30 : w.heap.size < w3.heap.size := Nat.lt_of_lt_of_le y2_0 (by omega)); (have y31 : w2.heap.size < w3.heap.size := by omega))
      | (go_at_call 39; have _t := tok1; refine (pick_any _ _ _ _ _ (by (repeat' (first | with_reducible assumption | with_reducible refine RdOk.alloc ?_ _ | with_reducible refine RdOk.drew ?_ | with_reducible refine RdOk.drewN ?_ _ | with_reducible refine RdOk.setCell ?_ ?_ ?_ _ | (simp; done) | (simp; omega) | omega))) (by omega)).mono ?_; rintro e w4 ⟨x4, rfl, hx4, hy4, hr4, hg4⟩; clear tok1; obtain ⟨hc4, hf4⟩ := gcell hg4; have z4 := hg4.size; (have y40 : w.heap.size < w4.heap.size := by omega); (have y41 : w2.heap.size < w4.heap.size := by omega))
      | (go_at_call 39; refine (pick_any _ _ _ _ _ (by (repeat' (first | with_reducible assumption | with_reducible refine RdOk.alloc ?_ _ | with_reducible refine RdOk.drew ?_ | with_reducible refine RdOk.drewN ?_ _ | with_reducible refine RdOk.setCell ?_ ?_ ?_ _ | (simp; done) | (simp; omega) | omega))) (by omega)).mono ?_; rintro e w5 ⟨x5, rfl, hx5, hy5, hr5, hg5⟩; obtain ⟨hc5, hf5⟩ := gcell hg5; have z5 := hg5.size; (have y50 : w.heap.size < w5.heap.size := by omega); (have y51 : w2.heap.size < w5.heap.size := by omega)))
  have q0 : w5.cell? ⟨w.heap.size, 0, none⟩ = some (.int .i64 0) := by go_simp
  have q1 : w5.cell? ⟨w.heap.size, 1, none⟩ = some (.int .i64 0) := by go_simp
  have q2 : w5.cell? ⟨w.heap.size, 2, none⟩ = some (.int .i64 0) := by go_simp
  go_wp2
  refine bodyPost_ret (v := .tuple #[.agg #[.int .i64 b, .int .i64 r, .int .i64 t], .int .i64 (IntKind.i64.wrap (x4 - IntKind.i64.wrap (x5.tdiv 11)))]) (by simp [results, Try.results28, go_sem, q0, q1, q2]) rfl ⟨b, r, t, _, rfl, ?_⟩
  exact (by repeat' (first | with_reducible exact Below.refl _ _ | with_reducible assumption | with_reducible refine bel_step (by with_reducible assumption) ?_ ?_ | with_reducible refine below_grown_step (by with_reducible assumption) ?_ ?_ ?_ | with_reducible refine Below.drew ?_ | with_reducible refine below_drewN ?_ _ | with_reducible refine Below.alloc ?_ ?_ _ | with_reducible refine Below.setCell ?_ ?_ _ | (simp; done) | (simp; omega) | omega | with_reducible refine below_le (by with_reducible assumption) ?_))

set_option maxHeartbeats 800000 in
theorem drawSlotBelow_any (A : Option Addr) (n c : Nat) (zs : List Int) (w : World) (h : IsRow .u8 w A n c zs) :
    Calls Try.prog 29 #[.slice A n c] w (DrawPlace w) := by
  have H := Lib.hid (h.alloc (.cells #[.int .i64 0, .int .i64 0, .int .i64 0] 25))
  clear h
  go_enter Try.func29, Try.ntmps29
  go_wp2_with (fail)
  refine (drawPlaceOf_any _ _ _ _ _ H.out).mono ?_
  rintro e w1 ⟨b, r, t, x, rfl, hb1⟩
  obtain ⟨hc1, hf1⟩ := bcell hb1
  have z1 := hb1.size
  simp at z1
  have y1 : w.heap.size < w1.heap.size := by omega
  have q0 : w1.cell? ⟨w.heap.size, 0, none⟩ = some (.int .i64 0) := by go_simp
  have q1 : w1.cell? ⟨w.heap.size, 1, none⟩ = some (.int .i64 0) := by go_simp
  have q2 : w1.cell? ⟨w.heap.size, 2, none⟩ = some (.int .i64 0) := by go_simp
  go_wp2_with (fail)
  refine bodyPost_ret (v := .tuple #[.agg #[.int .i64 b, .int .i64 r, .int .i64 t], .int .i64 x]) (by simp [results, Try.results29, go_sem, q0, q1, q2]) rfl ⟨b, r, t, _, rfl, ?_⟩
  exact (by repeat' (first | with_reducible exact Below.refl _ _ | with_reducible assumption | with_reducible refine bel_step (by with_reducible assumption) ?_ ?_ | with_reducible refine below_grown_step (by with_reducible assumption) ?_ ?_ ?_ | with_reducible refine Below.drew ?_ | with_reducible refine below_drewN ?_ _ | with_reducible refine Below.alloc ?_ ?_ _ | with_reducible refine Below.setCell ?_ ?_ _ | (simp; done) | (simp; omega) | omega | with_reducible refine below_le (by with_reducible assumption) ?_))
end Go.Proofs.Ytdmokkabkobjmaa
