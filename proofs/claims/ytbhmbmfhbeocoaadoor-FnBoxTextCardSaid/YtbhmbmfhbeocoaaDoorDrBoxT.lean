/- The drawers of the laws on texts of boxes: a box that is valid; DrawBoxText, DrawReadBox. Conditions: that the code reads as bytes. -/
import Derived.Test.YtbhmbmfhbeocoaaDoorDrBox
import Derived.Test.YtbhmbmfhbeocoaaDoorLwBx1
import Derived.Laws.Concat
namespace Go.Proofs.YtbhmbmfhbeocoaaDoor
open Go.RowKit
set_option linter.unusedVariables false

def Odd0Post (w : World) (B g N : Nat) (e : Ending) (w' : World) : Prop := ∃ u : Unit, e = .returned (.bool false) ∧ RdOk w' B g (N + 1) ∧ w.grownBy w' (some g)
set_option maxHeartbeats 400000 in
theorem odd0_any (B g N : Nat) (w : World) (h : RdOk w B g N) : Calls Tryd.prog 37 #[.pointer (some ⟨g, 0, none⟩), .int .i64 0] w (Odd0Post w B g N) := by
  go_enter Tryd.func37, Tryd.ntmps37
  go_wp2_with (fail)
  go_ret
  exact ⟨(), rfl, h.more (by omega), World.grownBy.refl w _⟩
def Box0Post (w : World) (B g N : Nat) (id : Int) (e : Ending) (w' : World) : Prop :=
  ∃ y : Bx, e = .returned y.val ∧ RdOk w' B g N ∧ w.grownBy w' (some g) ∧ y.id = id ∧ (1 ≤ y.wt ∧ y.wt ≤ 30) ∧ (0 ≤ y.cl ∧ y.cl ≤ 3) ∧ (0 ≤ y.po ∧ y.po ≤ 6)

set_option maxHeartbeats 3200000 in
theorem l20Box0_any (B g N : Nat) (id : Int) (w : World) (h : RdOk w B g N) (hN : N ≤ 100000) :
    Calls Tryd.prog 27 #[.pointer (some ⟨g, 0, none⟩), .int .i64 id, .int .i64 0] w (Box0Post w B g (N + 9) id) := by
  have hlt := h.lt
  have hge := h.ge
  have ne0 : ¬ w.heap.size = g := by omega
  go_enter Tryd.func27, Tryd.ntmps27
  go_wp2_with (fail)
  refine (pick_any _ _ _ _ _ (by repeat' (first | with_reducible assumption | with_reducible apply RdOk.alloc | with_reducible apply RdOk.drew | with_reducible apply RdOk.drewN | with_reducible apply RdOk.setCell | (simp; done) | (simp; omega) | omega)) (by omega)).mono ?_; rintro e w1 ⟨x1, rfl, hx1, hy1, hr1, hg1⟩; obtain ⟨hc1, hf1⟩ := gcell hg1; have z1 := hg1.size; (try simp at z1); have hl1 := hr1.lt; (have hn1 : ¬ w1.heap.size = g := by omega); (have y1_0 : w.heap.size < w1.heap.size := by omega)
  go_wp2_with (fail)
  refine (pick_any _ _ _ _ _ (by repeat' (first | with_reducible assumption | with_reducible apply RdOk.alloc | with_reducible apply RdOk.drew | with_reducible apply RdOk.drewN | with_reducible apply RdOk.setCell | (simp; done) | (simp; omega) | omega)) (by omega)).mono ?_; rintro e w2 ⟨x2, rfl, hx2, hy2, hr2, hg2⟩; obtain ⟨hc2, hf2⟩ := gcell hg2; have z2 := hg2.size; (try simp at z2); have hl2 := hr2.lt; (have hn2 : ¬ w2.heap.size = g := by omega); (have y2_0 : w.heap.size < w2.heap.size := by omega)
  go_wp2_with (fail)
  refine (pick_any _ _ _ _ _ (by repeat' (first | with_reducible assumption | with_reducible apply RdOk.alloc | with_reducible apply RdOk.drew | with_reducible apply RdOk.drewN | with_reducible apply RdOk.setCell | (simp; done) | (simp; omega) | omega)) (by omega)).mono ?_; rintro e w3 ⟨x3, rfl, hx3, hy3, hr3, hg3⟩; obtain ⟨hc3, hf3⟩ := gcell hg3; have z3 := hg3.size; (try simp at z3); have hl3 := hr3.lt; (have hn3 : ¬ w3.heap.size = g := by omega); (have y3_0 : w.heap.size < w3.heap.size := by omega)
  go_wp2_with (fail)
  refine (pick_any _ _ _ _ _ (by repeat' (first | with_reducible assumption | with_reducible apply RdOk.alloc | with_reducible apply RdOk.drew | with_reducible apply RdOk.drewN | with_reducible apply RdOk.setCell | (simp; done) | (simp; omega) | omega)) (by omega)).mono ?_; rintro e w4 ⟨x4, rfl, hx4, hy4, hr4, hg4⟩; obtain ⟨hc4, hf4⟩ := gcell hg4; have z4 := hg4.size; (try simp at z4); have hl4 := hr4.lt; (have hn4 : ¬ w4.heap.size = g := by omega); (have y4_0 : w.heap.size < w4.heap.size := by omega); (have y4_1 : w3.heap.size < w4.heap.size := by omega)
  by_cases hx : x4 = 0
  · subst hx
    go_wp2_with (fail)
    refine (pick_any _ _ _ _ _ (by repeat' (first | with_reducible assumption | with_reducible apply RdOk.alloc | with_reducible apply RdOk.drew | with_reducible apply RdOk.drewN | with_reducible apply RdOk.setCell | (simp; done) | (simp; omega) | omega)) (by omega)).mono ?_; rintro e w5 ⟨x5, rfl, hx5, hy5, hr5, hg5⟩; obtain ⟨hc5, hf5⟩ := gcell hg5; have z5 := hg5.size; (try simp at z5); have hl5 := hr5.lt; (have hn5 : ¬ w5.heap.size = g := by omega); (have y5_0 : w.heap.size < w5.heap.size := by omega); (have y5_1 : w3.heap.size < w5.heap.size := by omega)
    have p2 : w5.cell? ⟨w3.heap.size, 2, none⟩ = some (.int .i64 0) := by go_simp
    go_wp2_with (fail)
    clear p2
    have p2 : w5.cell? ⟨w3.heap.size, 2, none⟩ = some (.int .i64 0) := by go_simp
    refine (odd0_any _ _ _ _ (by repeat' (first | with_reducible assumption | with_reducible apply RdOk.alloc | with_reducible apply RdOk.drew | with_reducible apply RdOk.drewN | with_reducible apply RdOk.setCell | (simp; done) | (simp; omega) | omega))).mono ?_; rintro e w6 ⟨_u, rfl, hr6, hg6⟩; obtain ⟨hc6, hf6⟩ := gcell hg6; have z6 := hg6.size; (try simp at z6); have hl6 := hr6.lt; (have hn6 : ¬ w6.heap.size = g := by omega); (have y6_0 : w.heap.size < w6.heap.size := by omega); (have y6_1 : w3.heap.size < w6.heap.size := by omega)
    have q0 : w6.cell? ⟨w.heap.size, 0, none⟩ = some (.int .i64 0) := by go_simp
    have q1 : w6.cell? ⟨w.heap.size, 1, none⟩ = some (.int .i64 0) := by go_simp
    have q2 : w6.cell? ⟨w.heap.size, 2, none⟩ = some (.int .i64 0) := by go_simp
    have q3 : w6.cell? ⟨w.heap.size, 3, none⟩ = some (.int .i64 0) := by go_simp
    have q4 : w6.cell? ⟨w.heap.size, 4, none⟩ = some (.bool false) := by go_simp
    have p0 : w6.cell? ⟨w3.heap.size, 0, none⟩ = some (.int .i64 id) := by go_simp
    have p1 : w6.cell? ⟨w3.heap.size, 1, none⟩ = some (.int .i64 (1 + x1)) := by go_simp
    have p2 : w6.cell? ⟨w3.heap.size, 2, none⟩ = some (.int .i64 x5) := by go_simp
    have p3 : w6.cell? ⟨w3.heap.size, 3, none⟩ = some (.int .i64 x2) := by go_simp
    have p4 : w6.cell? ⟨w3.heap.size, 4, none⟩ = some (.bool (x3 == 0)) := by go_simp
    go_wp2_with (fail)
    refine bodyPost_ret (v := .agg #[.int .i64 id, .int .i64 (1 + x1), .int .i64 x5, .int .i64 x2, .bool (x3 == 0)]) ?_ rfl ⟨⟨id, 1 + x1, x5, x2, x3 == 0⟩, rfl, RdOk.more (N := ?_) ?_ ?_, ?_, rfl, by simp only; omega, by simp only; omega, by simp only; omega⟩
    · simp [results, Tryd.results27, go_sem, q0, q1, q2, q3, q4]
    rotate_left
    · (repeat' (first | with_reducible assumption | with_reducible apply RdOk.alloc | with_reducible apply RdOk.drew | with_reducible apply RdOk.drewN | with_reducible apply RdOk.setCell | (simp; done) | (simp; omega) | omega))
    · omega
    · (repeat' (first | with_reducible exact World.grownBy.refl _ _ | with_reducible assumption | with_reducible refine only_step (by with_reducible assumption) ?_ | with_reducible refine only_below (by with_reducible assumption) ?_ | with_reducible refine only_drew ?_ | with_reducible refine only_drewN ?_ _ | with_reducible refine only_alloc ?_ _ | with_reducible refine only_setCell ?_ ?_ _ | (simp; done) | (simp; omega) | omega))
  · have hx' : (x4 == 0) = false := beq_eq_false_iff_ne.2 hx
    go_wp2_with (fail)
    refine (odd0_any _ _ _ _ (by repeat' (first | with_reducible assumption | with_reducible apply RdOk.alloc | with_reducible apply RdOk.drew | with_reducible apply RdOk.drewN | with_reducible apply RdOk.setCell | (simp; done) | (simp; omega) | omega))).mono ?_; rintro e w6 ⟨_u, rfl, hr6, hg6⟩; obtain ⟨hc6, hf6⟩ := gcell hg6; have z6 := hg6.size; (try simp at z6); have hl6 := hr6.lt; (have hn6 : ¬ w6.heap.size = g := by omega); (have y6_0 : w.heap.size < w6.heap.size := by omega); (have y6_1 : w3.heap.size < w6.heap.size := by omega)
    have q0 : w6.cell? ⟨w.heap.size, 0, none⟩ = some (.int .i64 0) := by go_simp
    have q1 : w6.cell? ⟨w.heap.size, 1, none⟩ = some (.int .i64 0) := by go_simp
    have q2 : w6.cell? ⟨w.heap.size, 2, none⟩ = some (.int .i64 0) := by go_simp
    have q3 : w6.cell? ⟨w.heap.size, 3, none⟩ = some (.int .i64 0) := by go_simp
    have q4 : w6.cell? ⟨w.heap.size, 4, none⟩ = some (.bool false) := by go_simp
    have p0 : w6.cell? ⟨w3.heap.size, 0, none⟩ = some (.int .i64 id) := by go_simp
    have p1 : w6.cell? ⟨w3.heap.size, 1, none⟩ = some (.int .i64 (1 + x1)) := by go_simp
    have p2 : w6.cell? ⟨w3.heap.size, 2, none⟩ = some (.int .i64 0) := by go_simp
    have p3 : w6.cell? ⟨w3.heap.size, 3, none⟩ = some (.int .i64 x2) := by go_simp
    have p4 : w6.cell? ⟨w3.heap.size, 4, none⟩ = some (.bool (x3 == 0)) := by go_simp
    go_wp2_with (fail)
    refine bodyPost_ret (v := .agg #[.int .i64 id, .int .i64 (1 + x1), .int .i64 0, .int .i64 x2, .bool (x3 == 0)]) ?_ rfl ⟨⟨id, 1 + x1, 0, x2, x3 == 0⟩, rfl, RdOk.more (N := ?_) ?_ ?_, ?_, rfl, by simp only; omega, by simp only; omega, by simp only; omega⟩
    · simp [results, Tryd.results27, go_sem, q0, q1, q2, q3, q4]
    rotate_left
    · (repeat' (first | with_reducible assumption | with_reducible apply RdOk.alloc | with_reducible apply RdOk.drew | with_reducible apply RdOk.drewN | with_reducible apply RdOk.setCell | (simp; done) | (simp; omega) | omega))
    · omega
    · (repeat' (first | with_reducible exact World.grownBy.refl _ _ | with_reducible assumption | with_reducible refine only_step (by with_reducible assumption) ?_ | with_reducible refine only_below (by with_reducible assumption) ?_ | with_reducible refine only_drew ?_ | with_reducible refine only_drewN ?_ _ | with_reducible refine only_alloc ?_ _ | with_reducible refine only_setCell ?_ ?_ _ | (simp; done) | (simp; omega) | omega))

theorem boxT_bound {y : Bx} (h : bxB y = true) : 1 ≤ (boxT y).size ∧ (boxT y).size ≤ 20 := by
  obtain ⟨⟨i0, i1⟩, ⟨t0, t1⟩, ⟨c0, c1⟩, p0, p1⟩ := bxB_iff.1 h
  have e : (boxT y).size = (boxL y).length := by
    rw [← boxT_list, Array.length_toList]
    rfl
  have hc : (coL y.co).length ≤ 1 := by cases y.co <;> simp [coL]
  have l1 := dec_len y.id.toNat (by omega)
  have l2 := dec_len y.wt.toNat (by omega)
  have l3 := dec_len y.cl.toNat (by omega)
  have l4 := dec_len y.po.toNat (by omega)
  rw [e, boxL, if_pos h, coreL]
  simp only [List.length_append, List.length_cons]
  omega
def DrawBx (w : World) (e : Ending) (w' : World) : Prop := ∃ y : Bx, e = .returned y.val ∧ Below w.heap.size w w'
def DrawTx (w : World) (e : Ending) (w' : World) : Prop := ∃ s : ByteArray, e = .returned (.string s) ∧ s.size ≤ 100 ∧ Below w.heap.size w w'

set_option maxHeartbeats 800000 in
theorem drawBoxText_any (A : Option Addr) (n c : Nat) (zs : List Int) (w : World) (h : IsRow .u8 w A n c zs) :
    Calls Tryd.prog 13 #[.slice A n c] w (DrawBx w) := by
  have H := Lib.hid (h.alloc (.cells #[.int .i64 0, .int .i64 0, .int .i64 0, .int .i64 0, .bool false] 25))
  clear h
  go_enter Tryd.func13, Tryd.ntmps13
  go_wp2_with (fail)
  refine (l20Open_any _ _ _ _ _ (H.out)).mono ?_; rintro e w1 ⟨g, rfl, hr1, hb1⟩; obtain ⟨hc1, hf1⟩ := bcell hb1; have z1 := hb1.size; (try simp at z1); have hl1 := hr1.lt; have hge1 := hr1.ge; (try simp at hge1); (have hn1 : ¬ w1.heap.size = g := by omega); (have nb1_0 : ¬ w.heap.size = g := by omega); (have y1_0 : w.heap.size < w1.heap.size := by omega)
  go_wp2_with (fail)
  refine (pick_any _ _ _ _ _ (by repeat' (first | with_reducible assumption | with_reducible apply RdOk.alloc | with_reducible apply RdOk.drew | with_reducible apply RdOk.drewN | with_reducible apply RdOk.setCell | (simp; done) | (simp; omega) | omega)) (by omega)).mono ?_; rintro e w2 ⟨x2, rfl, hx2, hy2, hr2, hg2⟩; obtain ⟨hc2, hf2⟩ := gcell hg2; have z2 := hg2.size; (try simp at z2); have hl2 := hr2.lt; (have hn2 : ¬ w2.heap.size = g := by omega); (have y2_0 : w.heap.size < w2.heap.size := by omega)
  go_wp2_with (fail)
  refine (pick_any _ _ _ _ _ (by repeat' (first | with_reducible assumption | with_reducible apply RdOk.alloc | with_reducible apply RdOk.drew | with_reducible apply RdOk.drewN | with_reducible apply RdOk.setCell | (simp; done) | (simp; omega) | omega)) (by omega)).mono ?_; rintro e w3 ⟨x3, rfl, hx3, hy3, hr3, hg3⟩; obtain ⟨hc3, hf3⟩ := gcell hg3; have z3 := hg3.size; (try simp at z3); have hl3 := hr3.lt; (have hn3 : ¬ w3.heap.size = g := by omega); (have y3_0 : w.heap.size < w3.heap.size := by omega)
  have hm0 : 0 ≤ x2 * x3 := Int.mul_nonneg hx2 hx3
  have hm1 : x2 * x3 ≤ 200 * 5 := Int.mul_le_mul (by omega) (by omega) hx3 (by omega)
  obtain ⟨m, hm⟩ : ∃ m, x2 * x3 = m := ⟨_, rfl⟩
  rw [hm] at hm0 hm1
  have hw1 : IntKind.i64.wrap m = m := IntWalk.i64_in _ (by omega)
  have hw2 : IntKind.i64.wrap (1 + m) = 1 + m := IntWalk.i64_in _ (by omega)
  go_wp2_with (fail)
  try rw [hm]
  refine (l20Box_any _ _ _ _ _ _ (by repeat' (first | with_reducible assumption | with_reducible apply RdOk.alloc | with_reducible apply RdOk.drew | with_reducible apply RdOk.drewN | with_reducible apply RdOk.setCell | (simp; done) | (simp; omega) | omega)) (by omega) (by omega)).mono ?_; rintro e w4 ⟨y, rfl, hr4, hg4⟩; obtain ⟨hc4, hf4⟩ := gcell hg4; have z4 := hg4.size; (try simp at z4); have hl4 := hr4.lt; (have hn4 : ¬ w4.heap.size = g := by omega); (have y4_0 : w.heap.size < w4.heap.size := by omega)
  have q0 : w4.cell? ⟨w.heap.size, 0, none⟩ = some (.int .i64 0) := by go_simp
  have q1 : w4.cell? ⟨w.heap.size, 1, none⟩ = some (.int .i64 0) := by go_simp
  have q2 : w4.cell? ⟨w.heap.size, 2, none⟩ = some (.int .i64 0) := by go_simp
  have q3 : w4.cell? ⟨w.heap.size, 3, none⟩ = some (.int .i64 0) := by go_simp
  have q4 : w4.cell? ⟨w.heap.size, 4, none⟩ = some (.bool false) := by go_simp
  unfold Bx.val
  go_wp2_with (fail)
  refine bodyPost_ret (v := .agg #[.int .i64 y.id, .int .i64 y.wt, .int .i64 y.cl, .int .i64 y.po, .bool y.co]) (by simp [results, Tryd.results13, go_sem, q0, q1, q2, q3, q4]) rfl ⟨y, rfl, ?_⟩
  exact (by repeat' (first | with_reducible exact Below.refl _ _ | with_reducible assumption | with_reducible refine bel_step (by with_reducible assumption) ?_ ?_ | with_reducible refine below_grown_step (by with_reducible assumption) ?_ ?_ ?_ | with_reducible refine Below.drew ?_ | with_reducible refine below_drewN ?_ _ | with_reducible refine Below.alloc ?_ ?_ _ | with_reducible refine Below.setCell ?_ ?_ _ | (simp; done) | (simp; omega) | omega | with_reducible refine below_le (by with_reducible assumption) ?_))

def fiveA : Array Value := #[.string ⟨#[]⟩, .string ⟨#[48]⟩, .string ⟨#[99]⟩, .string ⟨#[47]⟩, .string ⟨#[57]⟩]
theorem five_str (j : Nat) (hj : j < 5) : ∃ L : ByteArray, L.size ≤ 1 ∧ fiveA[j]? = some (.string L) := by
  rcases (show j = 0 ∨ j = 1 ∨ j = 2 ∨ j = 3 ∨ j = 4 by omega) with rfl | rfl | rfl | rfl | rfl
  · exact ⟨_, by decide, rfl⟩
  · exact ⟨_, by decide, rfl⟩
  · exact ⟨_, by decide, rfl⟩
  · exact ⟨_, by decide, rfl⟩
  · exact ⟨_, by decide, rfl⟩
theorem five_cell (j : Nat) (L : ByteArray) (h : fiveA[j]? = some (.string L)) : ∀ W : World, (W.alloc (.cells #[.string ⟨#[]⟩, .string ⟨#[48]⟩, .string ⟨#[99]⟩, .string ⟨#[47]⟩, .string ⟨#[57]⟩] 9)).cell? ⟨W.heap.size, j, none⟩ = some (.string L) := fun W => by
  rw [cell_of_row _ _ _ _ _ _ (heap_alloc_new W _)]
  exact h

set_option maxHeartbeats 1600000 in
set_option maxRecDepth 20000 in
theorem drawReadBox_any (A : Option Addr) (n c : Nat) (zs : List Int) (w : World) (h : IsRow .u8 w A n c zs) :
    Calls Tryd.prog 16 #[.slice A n c] w (DrawTx w) := by
  have H := Lib.hid h
  clear h
  go_enter Tryd.func16, Tryd.ntmps16
  go_wp2_with (fail)
  refine (l20Open_any _ _ _ _ _ H.out).mono ?_
  rintro e w1 ⟨g, rfl, hr1, hb1⟩
  have hge := hr1.ge
  have hs1 := hb1.size
  go_wp2_with (fail)
  refine (pick_any _ _ _ _ _ hr1 (by omega)).mono ?_
  rintro e w2 ⟨x2, rfl, hx2, hx2', hr2, hg2⟩
  have hb2 := below_grown_step hg2 hb1 hge hs1
  have hs2 := hb2.size
  clear hr1 hg2 hb1 hs1
  have hw1 : IntKind.i64.wrap (1 + x2) = 1 + x2 := IntWalk.i64_in _ (by omega)
  go_wp2_with (fail)
  refine (l20Box0_any _ _ _ _ _ hr2 (by omega)).mono ?_
  rintro e w3 ⟨⟨yi, yw, yc, yp, yo⟩, rfl, hr3, hg3, hyi, hyw, hyc, hyp⟩
  simp only at hyi hyw hyc hyp
  subst hyi
  have hb3 := below_grown_step hg3 hb2 hge hs2
  have hs3 := hb3.size
  clear hr2 hg3 hb2 hs2
  have hval : bxB ⟨1 + x2, yw, yc, yp, yo⟩ = true := bxB_iff.2 ⟨⟨by simp only; omega, by simp only; omega⟩, hyw, hyc, hyp⟩
  obtain ⟨hz0, hz1⟩ := boxT_bound hval
  obtain ⟨s, hS⟩ : ∃ s, boxT ⟨1 + x2, yw, yc, yp, yo⟩ = s := ⟨_, rfl⟩
  rw [hS] at hz0 hz1
  have HS := Lib.hid hS
  unfold Bx.val
  simp only
  clear hS hval hyw hyc hyp hw1
  go_wp2_with (fail)
  refine (specBoxText_any _ _ _ _ _ _).mono ?_
  rintro e w4 ⟨rfl, hb4⟩
  rw [HS.out]
  have hr4 := hr3.keep hb4
  have hb5 := hb3.trans (hb4.mono hs3)
  have hs5 := hb5.size
  clear hr3 hb3 hb4 hs3 hx2 hx2' HS
  go_wp2_with (fail)
  refine (pick_any _ _ _ _ _ hr4 (by omega)).mono ?_
  rintro e w6 ⟨x6, rfl, hx6, hx6', hr6, hg6⟩
  have hb6 := below_grown_step hg6 hb5 hge hs5
  have hs6 := hb6.size
  clear hr4 hg6 hb5 hs5
  by_cases h6 : x6 = 0
  · subst h6
    go_wp2_with (fail)
    refine (pick_any _ _ _ _ _ hr6 (by omega)).mono ?_
    rintro e w7 ⟨x7, rfl, hx7, hx7', hr7, hg7⟩
    have hb7 := below_grown_step hg7 hb6 hge hs6
    have hs7 := hb7.size
    clear hr6 hg7 hb6 hs6
    obtain ⟨m, rfl⟩ := Int.eq_ofNat_of_zero_le hx7
    have hm : m < s.size := by omega
    have hm1 : (m : Int) ≤ s.size := by omega
    have hm2 : (m : Int) + 1 ≤ s.size := by omega
    have hm3 : (0 : Int) ≤ (m : Int) + 1 := by omega
    have hw1 : IntKind.i64.wrap ((m : Int) + 1) = m + 1 := IntWalk.i64_in _ (by omega)
    have ha1 : ∀ (W : World) (L : ByteArray), L.size ≤ 1 → (Op.stringOp .add (s.extract 0 m) L).run Tryd.prog W = .ok (.string (s.extract 0 m ++ L)) W := fun W L hL => run_string_add_sum W _ _ (by rw [ByteArray.size_extract]; omega)
    have ha2 : ∀ (W : World) (L : ByteArray), L.size ≤ 1 → (Op.stringOp .add (s.extract 0 m ++ L) (s.extract (m + 1) s.size)).run Tryd.prog W = .ok (.string (s.extract 0 m ++ L ++ s.extract (m + 1) s.size)) W := fun W L hL => run_string_add_sum W _ _ (by rw [ByteArray.size_append, ByteArray.size_extract, ByteArray.size_extract]; omega)
    have hsz : ∀ (L : ByteArray), L.size ≤ 1 → (s.extract 0 m ++ L ++ s.extract (m + 1) s.size).size ≤ 100 := fun L hL => by rw [ByteArray.size_append, ByteArray.size_append, ByteArray.size_extract, ByteArray.size_extract]; omega
    go_wp2_with (fail)
    obtain ⟨M, hM, hr7d⟩ : ∃ M, M ≤ 1000 ∧ RdOk w7.drew w.heap.size g M := ⟨_, by omega, hr7⟩
    have hb7d : Below w.heap.size w w7.drew := hb7.drew
    have Hr7 := Lib.hid hr7d
    have Hb7 := Lib.hid hb7
    have Hsz := Lib.hid hsz
    have hl7 := hr7.lt
    have hn7 : ¬ w7.heap.size = g := by omega
    clear hr7d hb7d hsz hb7 hr7 hx6 hx6' hx7 hx7'
    go_region_with (first
      | (go_at_call 28; refine (pick_any w.heap.size g M _ _ (by first | exact Hr7.out | exact Hr7.out.alloc _) (by omega)).mono ?_; rintro e w8 ⟨x8, rfl, hx8, hy8, hr8, hg8⟩
         obtain ⟨hc8, _⟩ := gcell hg8
         have hz8 := hg8.size
         obtain ⟨j, rfl⟩ := Int.eq_ofNat_of_zero_le hx8
         obtain ⟨L, hL1, hL2⟩ := five_str j (by omega)
         have hj5 : (j : Int) < 5 := by omega
         have hj5' : j < 5 := by omega
         have hLc := five_cell j L hL2))
    all_goals go_wp2_with (fail)
    all_goals go_ret
    all_goals
      refine ⟨_, rfl, Hsz.out L hL1, ?_⟩
      have hbx := Hb7.out
      have hsx := hbx.size
      have hz9 : w.heap.size ≤ w8.heap.size := by first | exact Nat.le_trans hs7 hz8 | exact Nat.le_trans ((Hb7.out.drew).alloc hs7 _).size hz8
      clear Hsz
    all_goals exact (by repeat' (first | with_reducible exact Below.refl _ _ | with_reducible assumption | with_reducible refine bel_step (by with_reducible assumption) ?_ ?_ | with_reducible refine below_grown_step (by with_reducible assumption) ?_ ?_ ?_ | with_reducible refine Below.drew ?_ | with_reducible refine below_drewN ?_ _ | with_reducible refine Below.alloc ?_ ?_ _ | with_reducible refine Below.setCell ?_ ?_ _ | (simp; done) | (simp; omega) | omega | with_reducible refine below_le (by with_reducible assumption) ?_))
  · have h6' : (x6 == 0) = false := beq_eq_false_iff_ne.2 h6
    go_wp2_with (fail)
    go_ret
    exact ⟨s, rfl, by omega, hb6⟩
end Go.Proofs.YtbhmbmfhbeocoaaDoor
