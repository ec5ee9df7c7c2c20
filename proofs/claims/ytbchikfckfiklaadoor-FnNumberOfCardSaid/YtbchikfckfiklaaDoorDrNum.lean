/- The drawers of owners, serials and spoiled texts. Conditions: as the reader's. -/
import Derived.Test.YtbchikfckfiklaaDoorNoOf
import Derived.Test.YtbchikfckfiklaaDoorRd
namespace Go.Proofs.YtbchikfckfiklaaDoor
open Go.RowKit
set_option linter.unusedVariables false

def StrPost (p : ByteArray → Prop) (w : World) (B g N : Nat) (e : Ending) (w' : World) : Prop :=
  ∃ s : ByteArray, e = .returned (.string s) ∧ p s ∧ RdOk w' B g N ∧ w.grownBy w' (some g)
theorem str_mk {p : ByteArray → Prop} {w w' : World} {B g N M : Nat} {s : ByteArray} (hp : p s) (h1 : RdOk w' B g M) (h2 : M ≤ N) (h3 : w.grownBy w' (some g)) : StrPost p w B g N (.returned (.string s)) w' := ⟨s, rfl, hp, h1.more h2, h3⟩

theorem three_conv (W : World) (b : Nat) (x y z : Int) (h0 : W.cell? ⟨b, 0, none⟩ = some (.int .u8 x)) (h1 : W.cell? ⟨b, 1, none⟩ = some (.int .u8 y)) (h2 : W.cell? ⟨b, 2, none⟩ = some (.int .u8 z)) :
    (convert 26 9 (.slice (some ⟨b, 0, none⟩) 3 3)).run Tryd.prog W = .ok (.string (strOfNums [x, y, z])) W :=
  run_convert_bytes_arg W 26 5 Tryd.underlying26 Tryd.underlying5 b 0 3 3 [x, y, z] rfl (fun i hi => by
    rcases (show i = 0 ∨ i = 1 ∨ i = 2 by omega) with rfl | rfl | rfl
    · simpa [List.getD] using h0
    · simpa [List.getD] using h1
    · simpa [List.getD] using h2) 9 Tryd.underlying9
theorem bt_nums (xs : List Int) (i : Nat) (hi : i < xs.length) (h : ∀ x ∈ xs, 0 ≤ x ∧ x ≤ 255) : bt (strOfNums xs) i = xs.getD i 0 := by
  have e : xs.getD i 0 = xs[i] := by simp [List.getD, hi]
  have h1 := h xs[i] (List.getElem_mem hi)
  rw [e, bt, strOfNums_data]
  simp [List.getD, hi]
  omega
theorem own_three {x y z : Int} (hx : 0 ≤ x ∧ x < 26) (hy : 0 ≤ y ∧ y < 26) (hz : 0 ≤ z ∧ z < 26) : ownB (strOfNums [65 + x, 65 + y, 65 + z]) = true := by
  have hall : ∀ u ∈ [65 + x, 65 + y, 65 + z], 0 ≤ u ∧ u ≤ 255 := by
    intro u hu
    simp at hu
    omega
  have hs : (strOfNums [65 + x, 65 + y, 65 + z]).size = 3 := strOfNums_size _
  simp only [ownB, hs, bt_nums _ 0 (by simp) hall, bt_nums _ 1 (by simp) hall, bt_nums _ 2 (by simp) hall]
  simp only [List.getD, List.getElem?_cons_zero, List.getElem?_cons_succ, Option.getD_some]
  rw [inR_yes (by omega), inR_yes (by omega), inR_yes (by omega)]
  rfl

set_option maxHeartbeats 400000 in
theorem odd_none (g : Nat) (n : Int) (w : World) (hn : n ≤ 0) :
    Calls Tryd.prog 38 #[.pointer (some ⟨g, 0, none⟩), .int .i64 n] w fun e w' => e = .returned (.bool false) ∧ w = w' := by
  go_enter Tryd.func38, Tryd.ntmps38
  go_wp2_with (fail)
  go_ret
  exact ⟨rfl, rfl⟩

set_option maxHeartbeats 1600000 in
theorem l20Owner_any (B g N : Nat) (n : Int) (w : World) (h : RdOk w B g N) (hN : N ≤ 1000) (hn' : n ≤ 1000) :
    Calls Tryd.prog 25 #[.pointer (some ⟨g, 0, none⟩), .int .i64 n] w (StrPost (fun s => (n ≤ 0 → ownB s = true) ∧ s.size ≤ 10) w B g (N + 4)) := by
  have hlt := h.lt
  go_enter Tryd.func25, Tryd.ntmps25
  go_wp2_with (fail)
  by_cases hn0 : n ≤ 0
  · refine (odd_none g n _ hn0).mono ?_
    rintro e w0 ⟨rfl, rfl⟩
    go_wp2_with (fail)
    refine (pick_any _ _ _ _ _ (by repeat' (first | with_reducible assumption | with_reducible apply RdOk.alloc | with_reducible apply RdOk.drew | with_reducible apply RdOk.drewN | with_reducible apply RdOk.setCell | (simp; done) | (simp; omega) | omega)) (by omega)).mono ?_; rintro e w1 ⟨x1, rfl, hx1, hy1, hr1, hg1⟩; obtain ⟨hc1, hf1⟩ := gcell hg1; have z1 := hg1.size; (try simp at z1); have hl1 := hr1.lt; (have hn1 : ¬ w1.heap.size = g := by omega)
    have hw1 : IntKind.i64.wrap (65 + x1) = 65 + x1 := IntWalk.i64_in _ (by omega)
    have hu1 : IntKind.u8.wrap (65 + x1) = 65 + x1 := IntWalk.u8_in _ (by omega)
    go_wp2_with (fail)
    refine (pick_any _ _ _ _ _ (by repeat' (first | with_reducible assumption | with_reducible apply RdOk.alloc | with_reducible apply RdOk.drew | with_reducible apply RdOk.drewN | with_reducible apply RdOk.setCell | (simp; done) | (simp; omega) | omega)) (by omega)).mono ?_; rintro e w2 ⟨x2, rfl, hx2, hy2, hr2, hg2⟩; obtain ⟨hc2, hf2⟩ := gcell hg2; have z2 := hg2.size; (try simp at z2); have hl2 := hr2.lt; (have hn2 : ¬ w2.heap.size = g := by omega)
    have hw2 : IntKind.i64.wrap (65 + x2) = 65 + x2 := IntWalk.i64_in _ (by omega)
    have hu2 : IntKind.u8.wrap (65 + x2) = 65 + x2 := IntWalk.u8_in _ (by omega)
    go_wp2_with (fail)
    refine (pick_any _ _ _ _ _ (by repeat' (first | with_reducible assumption | with_reducible apply RdOk.alloc | with_reducible apply RdOk.drew | with_reducible apply RdOk.drewN | with_reducible apply RdOk.setCell | (simp; done) | (simp; omega) | omega)) (by omega)).mono ?_; rintro e w3 ⟨x3, rfl, hx3, hy3, hr3, hg3⟩; obtain ⟨hc3, hf3⟩ := gcell hg3; have z3 := hg3.size; (try simp at z3); have hl3 := hr3.lt; (have hn3 : ¬ w3.heap.size = g := by omega)
    have hw3 : IntKind.i64.wrap (65 + x3) = 65 + x3 := IntWalk.i64_in _ (by omega)
    have hu3 : IntKind.u8.wrap (65 + x3) = 65 + x3 := IntWalk.u8_in _ (by omega)
    have hcv := three_conv (w3.alloc (.cells #[.int .u8 (65 + x1), .int .u8 (65 + x2), .int .u8 (65 + x3)] 5)) w3.heap.size (65 + x1) (65 + x2) (65 + x3) (by go_simp) (by go_simp) (by go_simp)
    go_wp2_with (fail)
    go_ret
    refine str_mk (M := ?_) ⟨fun _ => own_three (by omega) (by omega) (by omega), by rw [strOfNums_size]; simp⟩ ?_ ?_ ?_
    rotate_left
    · (repeat' (first | with_reducible assumption | with_reducible apply RdOk.alloc | with_reducible apply RdOk.drew | with_reducible apply RdOk.drewN | with_reducible apply RdOk.setCell | (simp; done) | (simp; omega) | omega))
    · omega
    · (repeat' (first | with_reducible exact World.grownBy.refl _ _ | with_reducible assumption | with_reducible refine only_step (by with_reducible assumption) ?_ | with_reducible refine only_below (by with_reducible assumption) ?_ | with_reducible refine only_drew ?_ | with_reducible refine only_drewN ?_ _ | with_reducible refine only_alloc ?_ _ | with_reducible refine only_setCell ?_ ?_ _ | (simp; done) | (simp; omega) | omega))
  · skip
    refine (odd_any _ _ _ _ _ (by repeat' (first | with_reducible assumption | with_reducible apply RdOk.alloc | with_reducible apply RdOk.drew | with_reducible apply RdOk.drewN | with_reducible apply RdOk.setCell | (simp; done) | (simp; omega) | omega)) (by omega) (by omega)).mono ?_; rintro e w1 ⟨x1, rfl, hr1, hg1⟩; obtain ⟨hc1, hf1⟩ := gcell hg1; have z1 := hg1.size; (try simp at z1); have hl1 := hr1.lt; (have hn1 : ¬ w1.heap.size = g := by omega)
    cases x1 with
    | false =>
      go_wp2_with (fail)
      refine (pick_any _ _ _ _ _ (by repeat' (first | with_reducible assumption | with_reducible apply RdOk.alloc | with_reducible apply RdOk.drew | with_reducible apply RdOk.drewN | with_reducible apply RdOk.setCell | (simp; done) | (simp; omega) | omega)) (by omega)).mono ?_; rintro e w2 ⟨x2, rfl, hx2, hy2, hr2, hg2⟩; obtain ⟨hc2, hf2⟩ := gcell hg2; have z2 := hg2.size; (try simp at z2); have hl2 := hr2.lt; (have hn2 : ¬ w2.heap.size = g := by omega)
      have hw2 : IntKind.i64.wrap (65 + x2) = 65 + x2 := IntWalk.i64_in _ (by omega)
      have hu2 : IntKind.u8.wrap (65 + x2) = 65 + x2 := IntWalk.u8_in _ (by omega)
      go_wp2_with (fail)
      refine (pick_any _ _ _ _ _ (by repeat' (first | with_reducible assumption | with_reducible apply RdOk.alloc | with_reducible apply RdOk.drew | with_reducible apply RdOk.drewN | with_reducible apply RdOk.setCell | (simp; done) | (simp; omega) | omega)) (by omega)).mono ?_; rintro e w3 ⟨x3, rfl, hx3, hy3, hr3, hg3⟩; obtain ⟨hc3, hf3⟩ := gcell hg3; have z3 := hg3.size; (try simp at z3); have hl3 := hr3.lt; (have hn3 : ¬ w3.heap.size = g := by omega)
      have hw3 : IntKind.i64.wrap (65 + x3) = 65 + x3 := IntWalk.i64_in _ (by omega)
      have hu3 : IntKind.u8.wrap (65 + x3) = 65 + x3 := IntWalk.u8_in _ (by omega)
      go_wp2_with (fail)
      refine (pick_any _ _ _ _ _ (by repeat' (first | with_reducible assumption | with_reducible apply RdOk.alloc | with_reducible apply RdOk.drew | with_reducible apply RdOk.drewN | with_reducible apply RdOk.setCell | (simp; done) | (simp; omega) | omega)) (by omega)).mono ?_; rintro e w4 ⟨x4, rfl, hx4, hy4, hr4, hg4⟩; obtain ⟨hc4, hf4⟩ := gcell hg4; have z4 := hg4.size; (try simp at z4); have hl4 := hr4.lt; (have hn4 : ¬ w4.heap.size = g := by omega)
      have hw4 : IntKind.i64.wrap (65 + x4) = 65 + x4 := IntWalk.i64_in _ (by omega)
      have hu4 : IntKind.u8.wrap (65 + x4) = 65 + x4 := IntWalk.u8_in _ (by omega)
      have hcv := three_conv (w4.alloc (.cells #[.int .u8 (65 + x2), .int .u8 (65 + x3), .int .u8 (65 + x4)] 5)) w4.heap.size (65 + x2) (65 + x3) (65 + x4) (by go_simp) (by go_simp) (by go_simp)
      go_wp2_with (fail)
      go_ret
      refine str_mk (M := ?_) ⟨fun _ => own_three (by omega) (by omega) (by omega), by rw [strOfNums_size]; simp⟩ ?_ ?_ ?_
      rotate_left
      · (repeat' (first | with_reducible assumption | with_reducible apply RdOk.alloc | with_reducible apply RdOk.drew | with_reducible apply RdOk.drewN | with_reducible apply RdOk.setCell | (simp; done) | (simp; omega) | omega))
      · omega
      · (repeat' (first | with_reducible exact World.grownBy.refl _ _ | with_reducible assumption | with_reducible refine only_step (by with_reducible assumption) ?_ | with_reducible refine only_below (by with_reducible assumption) ?_ | with_reducible refine only_drew ?_ | with_reducible refine only_drewN ?_ _ | with_reducible refine only_alloc ?_ _ | with_reducible refine only_setCell ?_ ?_ _ | (simp; done) | (simp; omega) | omega))
    | true =>
      go_wp2_with (fail)
      refine (pick_any _ _ _ _ _ (by repeat' (first | with_reducible assumption | with_reducible apply RdOk.alloc | with_reducible apply RdOk.drew | with_reducible apply RdOk.drewN | with_reducible apply RdOk.setCell | (simp; done) | (simp; omega) | omega)) (by omega)).mono ?_; rintro e w2 ⟨x2, rfl, hx2, hy2, hr2, hg2⟩; obtain ⟨hc2, hf2⟩ := gcell hg2; have z2 := hg2.size; (try simp at z2); have hl2 := hr2.lt; (have hn2 : ¬ w2.heap.size = g := by omega); (have y2_0 : w1.heap.size < w2.heap.size := by omega)
      rcases (show x2 = 0 ∨ x2 = 1 ∨ x2 = 2 ∨ x2 = 3 ∨ x2 = 4 by omega) with rfl | rfl | rfl | rfl | rfl
      all_goals go_wp2_with (fail)
      all_goals go_ret
      all_goals
        refine str_mk (M := ?_) ⟨fun h => by omega, by decide⟩ ?_ ?_ ?_
        rotate_left
        · (repeat' (first | with_reducible assumption | with_reducible apply RdOk.alloc | with_reducible apply RdOk.drew | with_reducible apply RdOk.drewN | with_reducible apply RdOk.setCell | (simp; done) | (simp; omega) | omega))
        · omega
        · (repeat' (first | with_reducible exact World.grownBy.refl _ _ | with_reducible assumption | with_reducible refine only_step (by with_reducible assumption) ?_ | with_reducible refine only_below (by with_reducible assumption) ?_ | with_reducible refine only_drew ?_ | with_reducible refine only_drewN ?_ _ | with_reducible refine only_alloc ?_ _ | with_reducible refine only_setCell ?_ ?_ _ | (simp; done) | (simp; omega) | omega))

def IntPost (lo hi : Int) (w : World) (B g N : Nat) (e : Ending) (w' : World) : Prop :=
  ∃ x : Int, e = .returned (.int .i64 x) ∧ lo ≤ x ∧ x ≤ hi ∧ RdOk w' B g N ∧ w.grownBy w' (some g)

set_option maxHeartbeats 1600000 in
theorem l20Serial_any (B g N : Nat) (w : World) (h : RdOk w B g N) (hN : N ≤ 1000) :
    Calls Tryd.prog 27 #[.pointer (some ⟨g, 0, none⟩)] w (IntPost 0 975630 w B g (N + 3)) := by
  have hlt := h.lt
  go_enter Tryd.func27, Tryd.ntmps27
  go_wp2_with (fail)
  refine (pick_any _ _ _ _ _ (by repeat' (first | with_reducible assumption | with_reducible apply RdOk.alloc | with_reducible apply RdOk.drew | with_reducible apply RdOk.drewN | with_reducible apply RdOk.setCell | (simp; done) | (simp; omega) | omega)) (by omega)).mono ?_; rintro e w1 ⟨x1, rfl, hx1, hy1, hr1, hg1⟩; obtain ⟨hc1, hf1⟩ := gcell hg1; have z1 := hg1.size; (try simp at z1); have hl1 := hr1.lt; (have hn1 : ¬ w1.heap.size = g := by omega)
  go_wp2_with (fail)
  refine (pick_any _ _ _ _ _ (by repeat' (first | with_reducible assumption | with_reducible apply RdOk.alloc | with_reducible apply RdOk.drew | with_reducible apply RdOk.drewN | with_reducible apply RdOk.setCell | (simp; done) | (simp; omega) | omega)) (by omega)).mono ?_; rintro e w2 ⟨x2, rfl, hx2, hy2, hr2, hg2⟩; obtain ⟨hc2, hf2⟩ := gcell hg2; have z2 := hg2.size; (try simp at z2); have hl2 := hr2.lt; (have hn2 : ¬ w2.heap.size = g := by omega)
  have hx : 0 ≤ x1 * x2 ∧ x1 * x2 ≤ 65025 := by
    refine ⟨Int.mul_nonneg hx1 hx2, ?_⟩
    have := Int.mul_le_mul (show x1 ≤ 255 by omega) (show x2 ≤ 255 by omega) hx2 (by omega)
    omega
  obtain ⟨p, hp⟩ : ∃ p, x1 * x2 = p := ⟨_, rfl⟩
  rw [hp] at hx
  have hw1 : IntKind.i64.wrap p = p := IntWalk.i64_in _ (by omega)
  have hw2 : IntKind.i64.wrap (p * 15) = p * 15 := IntWalk.i64_in _ (by omega)
  go_wp2_with (fail)
  refine (pick_any _ _ _ _ _ (by repeat' (first | with_reducible assumption | with_reducible apply RdOk.alloc | with_reducible apply RdOk.drew | with_reducible apply RdOk.drewN | with_reducible apply RdOk.setCell | (simp; done) | (simp; omega) | omega)) (by omega)).mono ?_; rintro e w3 ⟨x3, rfl, hx3, hy3, hr3, hg3⟩; obtain ⟨hc3, hf3⟩ := gcell hg3; have z3 := hg3.size; (try simp at z3); have hl3 := hr3.lt; (have hn3 : ¬ w3.heap.size = g := by omega)
  have hw3 : IntKind.i64.wrap (p * 15 + x3) = p * 15 + x3 := IntWalk.i64_in _ (by omega)
  go_wp2_with (fail)
  go_ret
  refine ⟨_, rfl, by omega, by omega, ?_, ?_⟩
  · exact RdOk.more (N := N + 1 + 1 + 1) (by (repeat' (first | with_reducible assumption | with_reducible apply RdOk.alloc | with_reducible apply RdOk.drew | with_reducible apply RdOk.drewN | with_reducible apply RdOk.setCell | (simp; done) | (simp; omega) | omega))) (by omega)
  · (repeat' (first | with_reducible exact World.grownBy.refl _ _ | with_reducible assumption | with_reducible refine only_step (by with_reducible assumption) ?_ | with_reducible refine only_below (by with_reducible assumption) ?_ | with_reducible refine only_drew ?_ | with_reducible refine only_drewN ?_ _ | with_reducible refine only_alloc ?_ _ | with_reducible refine only_setCell ?_ ?_ _ | (simp; done) | (simp; omega) | omega))

def sixA : Array Value := #[.string ⟨#[]⟩, .string ⟨#[48]⟩, .string ⟨#[55]⟩, .string ⟨#[65]⟩, .string ⟨#[117]⟩, .string ⟨#[85]⟩]
theorem six_str (j : Nat) (hj : j < 6) : ∃ L : ByteArray, L.size ≤ 1 ∧ sixA[j]? = some (.string L) := by
  rcases (show j = 0 ∨ j = 1 ∨ j = 2 ∨ j = 3 ∨ j = 4 ∨ j = 5 by omega) with rfl | rfl | rfl | rfl | rfl | rfl
  · exact ⟨_, by decide, rfl⟩
  · exact ⟨_, by decide, rfl⟩
  · exact ⟨_, by decide, rfl⟩
  · exact ⟨_, by decide, rfl⟩
  · exact ⟨_, by decide, rfl⟩
  · exact ⟨_, by decide, rfl⟩
theorem six_cell (j : Nat) (L : ByteArray) (h : sixA[j]? = some (.string L)) : ∀ W : World, (W.alloc (.cells #[.string ⟨#[]⟩, .string ⟨#[48]⟩, .string ⟨#[55]⟩, .string ⟨#[65]⟩, .string ⟨#[117]⟩, .string ⟨#[85]⟩] 9)).cell? ⟨W.heap.size, j, none⟩ = some (.string L) := fun W => by
  rw [cell_of_row _ _ _ _ _ _ (heap_alloc_new W _)]
  exact h

set_option maxHeartbeats 1600000 in
theorem l20Spoil_any (B g N : Nat) (s : ByteArray) (w : World) (h : RdOk w B g N) (hN : N ≤ 1000) (hs : s.size ≤ 1000) :
    Calls Tryd.prog 39 #[.pointer (some ⟨g, 0, none⟩), .string s] w (StrPost (fun t => t.size ≤ s.size + 1) w B g (N + 2)) := by
  have hlt := h.lt
  by_cases h0 : s.size = 0
  · go_enter Tryd.func39, Tryd.ntmps39
    go_wp2_with (fail)
    go_ret
    exact str_mk (show (⟨#[65]⟩ : ByteArray).size ≤ s.size + 1 by rw [h0]; decide) h (by omega) (World.grownBy.refl _ _)
  · have h0' : ((s.size : Int) == 0) = false := by rw [beq_eq_false_iff_ne]; omega
    go_enter Tryd.func39, Tryd.ntmps39
    go_wp2_with (fail)
    refine (pick_any _ _ _ _ _ (by repeat' (first | with_reducible assumption | with_reducible apply RdOk.alloc | with_reducible apply RdOk.drew | with_reducible apply RdOk.drewN | with_reducible apply RdOk.setCell | (simp; done) | (simp; omega) | omega)) (by omega)).mono ?_; rintro e w1 ⟨x1, rfl, hx1, hy1, hr1, hg1⟩; obtain ⟨hc1, hf1⟩ := gcell hg1; have z1 := hg1.size; (try simp at z1); have hl1 := hr1.lt; (have hn1 : ¬ w1.heap.size = g := by omega)
    obtain ⟨m, rfl⟩ := Int.eq_ofNat_of_zero_le hx1
    have hm : m < s.size := by omega
    have hm1 : (m : Int) ≤ s.size := by omega
    have hm2 : (m : Int) + 1 ≤ s.size := by omega
    have hm3 : (0 : Int) ≤ (m : Int) + 1 := by omega
    have hw1 : IntKind.i64.wrap ((m : Int) + 1) = m + 1 := IntWalk.i64_in _ (by omega)
    have ha1 : ∀ (W : World) (L : ByteArray), L.size ≤ 1 → (Op.stringOp .add (s.extract 0 m) L).run Tryd.prog W = .ok (.string (s.extract 0 m ++ L)) W := fun W L hL => run_string_add_sum W _ _ (by rw [ByteArray.size_extract]; omega)
    have ha2 : ∀ (W : World) (L : ByteArray), L.size ≤ 1 → (Op.stringOp .add (s.extract 0 m ++ L) (s.extract (m + 1) s.size)).run Tryd.prog W = .ok (.string (s.extract 0 m ++ L ++ s.extract (m + 1) s.size)) W := fun W L hL => run_string_add_sum W _ _ (by rw [ByteArray.size_append, ByteArray.size_extract, ByteArray.size_extract]; omega)
    have hsz : ∀ (L : ByteArray), L.size ≤ 1 → (s.extract 0 m ++ L ++ s.extract (m + 1) s.size).size ≤ s.size + 1 := fun L hL => by rw [ByteArray.size_append, ByteArray.size_append, ByteArray.size_extract, ByteArray.size_extract]; omega
    go_wp2_with (fail)
    have hr1d : RdOk w1.drew B g (N + 1) := hr1
    have hond : w.grownBy w1.drew (some g) := only_drew hg1
    have Hr1 := Lib.hid hr1d
    have Hon := Lib.hid hond
    have Hsz := Lib.hid hsz
    clear hr1d hond hsz hg1 hr1 hc1 hf1
    go_region_with (first
      | (go_at_call 26; refine (pick_any B g (N + 1) _ _ (by first | exact Hr1.out | exact Hr1.out.alloc _) (by omega)).mono ?_; rintro e w3 ⟨x3, rfl, hx3, hy3, hr3, hg3⟩
         obtain ⟨hc3, _⟩ := gcell hg3
         have hz3 := hg3.size
         obtain ⟨j, rfl⟩ := Int.eq_ofNat_of_zero_le hx3
         obtain ⟨L, hL1, hL2⟩ := six_str j (by omega)
         have hj6 : (j : Int) < 6 := by omega
         have hj6' : j < 6 := by omega
         have hLc := six_cell j L hL2))
    all_goals go_wp2_with (fail)
    all_goals go_ret
    all_goals
      refine str_mk (M := N + 1 + 1) (Hsz.out L hL1) ?_ ?_ ?_
      · (repeat' (first | with_reducible assumption | with_reducible apply RdOk.alloc | with_reducible apply RdOk.drew | with_reducible apply RdOk.drewN | with_reducible apply RdOk.setCell | (simp; done) | (simp; omega) | omega))
      · omega
      · exact only_step (by first | assumption | exact only_alloc hg3 _) (by first | exact Hon.out | exact only_alloc Hon.out _)
end Go.Proofs.YtbchikfckfiklaaDoor
