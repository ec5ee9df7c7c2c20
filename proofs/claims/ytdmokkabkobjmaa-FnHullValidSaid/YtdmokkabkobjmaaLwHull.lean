/- The walks of the laws FnHullValid, FnSlotMany, FnSlotOf, FnPlaceOf, FnSlotBelow: each returns true and leaves the old memory alone. Conditions: that the code reads as bytes. -/
import Derived.Test.YtdmokkabkobjmaaDrHull2
import Derived.Test.YtdmokkabkobjmaaNum
import Derived.Test.YtdmokkabkobjmaaHullMath
namespace Go.Proofs.Ytdmokkabkobjmaa
open Go.RowKit
set_option linter.unusedVariables false

theorem hullB_zero (b r : Int) : hullB b r 0 = false := by
  cases h : hullB b r 0 with
  | false => rfl
  | true => have := hullB_iff.1 h; omega
theorem hullB_one : hullB 1 1 1 = true := by decide
theorem hullB_first {b r t : Int} (h : hullB b r t = true) : hullB 1 r t = true := by
  have := hullB_iff.1 h
  exact hullB_iff.2 (by omega)

set_option maxHeartbeats 800000 in
theorem fnHullValid_walk (A : Option Addr) (n c : Nat) (zs : List Int) (w : World) (h : IsRow .u8 w A n c zs) :
    Calls Try.prog 8 #[.slice A n c] w fun e w' => e = .returned (.bool true) ∧ Below w.heap.size w w' := by
  by_cases hn : 1048576 < n
  · have hn' : (1048576 : Int) < n := by omega
    clear h
    go_enter Try.func8, Try.ntmps8
    go_wp2_with (fail)
    go_ret
    exact ⟨rfl, (by repeat' (first | with_reducible exact Below.refl _ _ | with_reducible assumption | with_reducible refine bel_step (by with_reducible assumption) ?_ ?_ | with_reducible refine Below.drew ?_ | with_reducible refine below_drewN ?_ _ | with_reducible refine Below.alloc ?_ ?_ _ | with_reducible refine Below.setCell ?_ ?_ _ | (simp; done) | (simp; omega) | omega | with_reducible refine below_le (by with_reducible assumption) ?_))⟩
  · have hn' : (n : Int) ≤ 1048576 := by omega
    have H := Lib.hid h
    clear h hn
    go_enter Try.func8, Try.ntmps8
    go_wp2_with (fail)
    refine (drawHullValid_any _ _ _ _ _ H.out).mono ?_
    rintro e w1 ⟨b, r, t, rfl, hb1⟩
    obtain ⟨hc1, hf1⟩ := bcell hb1
    have z1 := hb1.size
    have y1 : w1.heap.size < w1.heap.size + 1 := by omega
    have k0 := hullB_zero b r
    have k1 := hullB_one
    cases hh : hullB b r t with
    | false =>
      go_wp2_with (first
        | (go_at_call 15; refine (implHullValid_any _ _ _ _).mono ?_; rintro e v1 ⟨rfl, hb1⟩; obtain ⟨hc1, hf1⟩ := bcell hb1; have z1 := hb1.size; (try simp at z1); (have y0 : w1.heap.size < v1.heap.size := by omega))
        | (go_at_call 13; refine (specHullValid_any _ _ _ _).mono ?_; rintro e v1 ⟨rfl, hb1⟩; obtain ⟨hc1, hf1⟩ := bcell hb1; have z1 := hb1.size; (try simp at z1); (have y0 : w1.heap.size < v1.heap.size := by omega))
        | (go_at_call 25; refine (alive_any _).mono ?_; rintro e w' ⟨rfl, rfl⟩))
      go_ret
      exact ⟨rfl, (by repeat' (first | with_reducible exact Below.refl _ _ | with_reducible assumption | with_reducible refine bel_step (by with_reducible assumption) ?_ ?_ | with_reducible refine Below.drew ?_ | with_reducible refine below_drewN ?_ _ | with_reducible refine Below.alloc ?_ ?_ _ | with_reducible refine Below.setCell ?_ ?_ _ | (simp; done) | (simp; omega) | omega | with_reducible refine below_le (by with_reducible assumption) ?_))⟩
    | true =>
      have k2 := hullB_first hh
      go_wp2_with (first
        | (go_at_call 15; refine (implHullValid_any _ _ _ _).mono ?_; rintro e v1 ⟨rfl, hb1⟩; obtain ⟨hc1, hf1⟩ := bcell hb1; have z1 := hb1.size; (try simp at z1); (have y0 : w1.heap.size < v1.heap.size := by omega))
        | (go_at_call 13; refine (specHullValid_any _ _ _ _).mono ?_; rintro e v1 ⟨rfl, hb1⟩; obtain ⟨hc1, hf1⟩ := bcell hb1; have z1 := hb1.size; (try simp at z1); (have y0 : w1.heap.size < v1.heap.size := by omega))
        | (go_at_call 25; refine (alive_any _).mono ?_; rintro e w' ⟨rfl, rfl⟩))
      go_ret
      exact ⟨rfl, (by repeat' (first | with_reducible exact Below.refl _ _ | with_reducible assumption | with_reducible refine bel_step (by with_reducible assumption) ?_ ?_ | with_reducible refine Below.drew ?_ | with_reducible refine below_drewN ?_ _ | with_reducible refine Below.alloc ?_ ?_ _ | with_reducible refine Below.setCell ?_ ?_ _ | (simp; done) | (simp; omega) | omega | with_reducible refine below_le (by with_reducible assumption) ?_))⟩

set_option maxHeartbeats 1600000 in
theorem fnSlotOf_walk (A : Option Addr) (n c : Nat) (zs : List Int) (w : World) (h : IsRow .u8 w A n c zs) :
    Calls Try.prog 10 #[.slice A n c] w fun e w' => e = .returned (.bool true) ∧ Below w.heap.size w w' := by
  by_cases hn : 1048576 < n
  · have hn' : (1048576 : Int) < n := by omega
    clear h
    go_enter Try.func10, Try.ntmps10
    go_wp2_with (fail)
    go_ret
    exact ⟨rfl, (by repeat' (first | with_reducible exact Below.refl _ _ | with_reducible assumption | with_reducible refine bel_step (by with_reducible assumption) ?_ ?_ | with_reducible refine Below.drew ?_ | with_reducible refine below_drewN ?_ _ | with_reducible refine Below.alloc ?_ ?_ _ | with_reducible refine Below.setCell ?_ ?_ _ | (simp; done) | (simp; omega) | omega | with_reducible refine below_le (by with_reducible assumption) ?_))⟩
  · have hn' : (n : Int) ≤ 1048576 := by omega
    have H := Lib.hid h
    clear h hn
    go_enter Try.func10, Try.ntmps10
    go_wp2_with (fail)
    refine (drawSlotOf_any _ _ _ _ _ H.out).mono ?_
    rintro e w1 ⟨b, r, t, x, y, z, rfl, hb1⟩
    obtain ⟨hc1, hf1⟩ := bcell hb1
    have z1 := hb1.size
    rcases slotOfV_neg b r t x y z with hs | ⟨h0, h1, h2, h3, h4⟩
    · go_wp2_with (first
        | (go_at_call 17; refine (implSlotOf_any _ _ _ _ _ _ _).mono ?_; rintro e v1 ⟨rfl, hb1⟩; obtain ⟨hc1, hf1⟩ := bcell hb1; have z1 := hb1.size; (try simp at z1); (have y0 : w1.heap.size < v1.heap.size := by omega))
        | (go_at_call 16; refine (specSlotOf_any _ _ _ _ _ _ _).mono ?_; rintro e v1 ⟨rfl, hb1⟩; obtain ⟨hc1, hf1⟩ := bcell hb1; have z1 := hb1.size; (try simp at z1); (have y0 : w1.heap.size < v1.heap.size := by omega))
        | (go_at_call 21; refine (implPlaceOf_any _ _ _ _ _).mono ?_; rintro e v1 ⟨rfl, hb1⟩; obtain ⟨hc1, hf1⟩ := bcell hb1; have z1 := hb1.size; (try simp at z1); (have y0 : w1.heap.size < v1.heap.size := by omega))
        | (go_at_call 19; refine (implSlotMany_any _ _ _ _).mono ?_; rintro e v1 ⟨rfl, hb1⟩; obtain ⟨hc1, hf1⟩ := bcell hb1; have z1 := hb1.size; (try simp at z1); (have y0 : w1.heap.size < v1.heap.size := by omega))
        | (go_at_call 25; refine (alive_any _).mono ?_; rintro e w' ⟨rfl, rfl⟩))
      go_ret
      exact ⟨rfl, (by repeat' (first | with_reducible exact Below.refl _ _ | with_reducible assumption | with_reducible refine bel_step (by with_reducible assumption) ?_ ?_ | with_reducible refine Below.drew ?_ | with_reducible refine below_drewN ?_ _ | with_reducible refine Below.alloc ?_ ?_ _ | with_reducible refine Below.setCell ?_ ?_ _ | (simp; done) | (simp; omega) | omega | with_reducible refine below_le (by with_reducible assumption) ?_))⟩
    · obtain ⟨s, hs⟩ : ∃ s, slotOfV b r t x y z = s := ⟨_, rfl⟩
      rw [hs] at h0 h1 h2 h3 h4
      go_wp2_with (first
        | (go_at_call 17; refine (implSlotOf_any _ _ _ _ _ _ _).mono ?_; rintro e v1 ⟨rfl, hb1⟩; obtain ⟨hc1, hf1⟩ := bcell hb1; have z1 := hb1.size; (try simp at z1); (have y0 : w1.heap.size < v1.heap.size := by omega))
        | (go_at_call 16; refine (specSlotOf_any _ _ _ _ _ _ _).mono ?_; rintro e v1 ⟨rfl, hb1⟩; obtain ⟨hc1, hf1⟩ := bcell hb1; have z1 := hb1.size; (try simp at z1); (have y0 : w1.heap.size < v1.heap.size := by omega))
        | (go_at_call 21; refine (implPlaceOf_any _ _ _ _ _).mono ?_; rintro e v1 ⟨rfl, hb1⟩; obtain ⟨hc1, hf1⟩ := bcell hb1; have z1 := hb1.size; (try simp at z1); (have y0 : w1.heap.size < v1.heap.size := by omega))
        | (go_at_call 19; refine (implSlotMany_any _ _ _ _).mono ?_; rintro e v1 ⟨rfl, hb1⟩; obtain ⟨hc1, hf1⟩ := bcell hb1; have z1 := hb1.size; (try simp at z1); (have y0 : w1.heap.size < v1.heap.size := by omega))
        | (go_at_call 25; refine (alive_any _).mono ?_; rintro e w' ⟨rfl, rfl⟩))
      go_ret
      exact ⟨rfl, (by repeat' (first | with_reducible exact Below.refl _ _ | with_reducible assumption | with_reducible refine bel_step (by with_reducible assumption) ?_ ?_ | with_reducible refine Below.drew ?_ | with_reducible refine below_drewN ?_ _ | with_reducible refine Below.alloc ?_ ?_ _ | with_reducible refine Below.setCell ?_ ?_ _ | (simp; done) | (simp; omega) | omega | with_reducible refine below_le (by with_reducible assumption) ?_))⟩

set_option maxHeartbeats 1600000 in
theorem fnPlaceOf_walk (A : Option Addr) (n c : Nat) (zs : List Int) (w : World) (h : IsRow .u8 w A n c zs) :
    Calls Try.prog 11 #[.slice A n c] w fun e w' => e = .returned (.bool true) ∧ Below w.heap.size w w' := by
  by_cases hn : 1048576 < n
  · have hn' : (1048576 : Int) < n := by omega
    clear h
    go_enter Try.func11, Try.ntmps11
    go_wp2_with (fail)
    go_ret
    exact ⟨rfl, (by repeat' (first | with_reducible exact Below.refl _ _ | with_reducible assumption | with_reducible refine bel_step (by with_reducible assumption) ?_ ?_ | with_reducible refine Below.drew ?_ | with_reducible refine below_drewN ?_ _ | with_reducible refine Below.alloc ?_ ?_ _ | with_reducible refine Below.setCell ?_ ?_ _ | (simp; done) | (simp; omega) | omega | with_reducible refine below_le (by with_reducible assumption) ?_))⟩
  · have hn' : (n : Int) ≤ 1048576 := by omega
    have H := Lib.hid h
    clear h hn
    go_enter Try.func11, Try.ntmps11
    go_wp2_with (fail)
    refine (drawPlaceOf_any _ _ _ _ _ H.out).mono ?_
    rintro e w1 ⟨b, r, t, s, rfl, hb1⟩
    obtain ⟨hc1, hf1⟩ := bcell hb1
    have z1 := hb1.size
    rcases place_slot b r t s with ⟨h0, h1, h2, h3⟩ | ⟨h0, h1, h2, h3, h4⟩
    · go_wp2_with (first
        | (go_at_call 17; refine (implSlotOf_any _ _ _ _ _ _ _).mono ?_; rintro e v1 ⟨rfl, hb1⟩; obtain ⟨hc1, hf1⟩ := bcell hb1; have z1 := hb1.size; (try simp at z1); (have y0 : w1.heap.size < v1.heap.size := by omega))
        | (go_at_call 21; refine (implPlaceOf_any _ _ _ _ _).mono ?_; rintro e v1 ⟨rfl, hb1⟩; obtain ⟨hc1, hf1⟩ := bcell hb1; have z1 := hb1.size; (try simp at z1); (have y0 : w1.heap.size < v1.heap.size := by omega))
        | (go_at_call 20; refine (specPlaceOf_any _ _ _ _ _).mono ?_; rintro e v1 ⟨rfl, hb1⟩; obtain ⟨hc1, hf1⟩ := bcell hb1; have z1 := hb1.size; (try simp at z1); (have y0 : w1.heap.size < v1.heap.size := by omega))
        | (go_at_call 25; refine (alive_any _).mono ?_; rintro e w' ⟨rfl, rfl⟩))
      go_ret
      exact ⟨rfl, (by repeat' (first | with_reducible exact Below.refl _ _ | with_reducible assumption | with_reducible refine bel_step (by with_reducible assumption) ?_ ?_ | with_reducible refine Below.drew ?_ | with_reducible refine below_drewN ?_ _ | with_reducible refine Below.alloc ?_ ?_ _ | with_reducible refine Below.setCell ?_ ?_ _ | (simp; done) | (simp; omega) | omega | with_reducible refine below_le (by with_reducible assumption) ?_))⟩
    · go_wp2_with (first
        | (go_at_call 17; refine (implSlotOf_any _ _ _ _ _ _ _).mono ?_; rintro e v1 ⟨rfl, hb1⟩; obtain ⟨hc1, hf1⟩ := bcell hb1; have z1 := hb1.size; (try simp at z1); (have y0 : w1.heap.size < v1.heap.size := by omega))
        | (go_at_call 21; refine (implPlaceOf_any _ _ _ _ _).mono ?_; rintro e v1 ⟨rfl, hb1⟩; obtain ⟨hc1, hf1⟩ := bcell hb1; have z1 := hb1.size; (try simp at z1); (have y0 : w1.heap.size < v1.heap.size := by omega))
        | (go_at_call 20; refine (specPlaceOf_any _ _ _ _ _).mono ?_; rintro e v1 ⟨rfl, hb1⟩; obtain ⟨hc1, hf1⟩ := bcell hb1; have z1 := hb1.size; (try simp at z1); (have y0 : w1.heap.size < v1.heap.size := by omega))
        | (go_at_call 25; refine (alive_any _).mono ?_; rintro e w' ⟨rfl, rfl⟩))
      go_ret
      exact ⟨rfl, (by repeat' (first | with_reducible exact Below.refl _ _ | with_reducible assumption | with_reducible refine bel_step (by with_reducible assumption) ?_ ?_ | with_reducible refine Below.drew ?_ | with_reducible refine below_drewN ?_ _ | with_reducible refine Below.alloc ?_ ?_ _ | with_reducible refine Below.setCell ?_ ?_ _ | (simp; done) | (simp; omega) | omega | with_reducible refine below_le (by with_reducible assumption) ?_))⟩

set_option maxHeartbeats 1600000 in
theorem fnSlotBelow_walk (A : Option Addr) (n c : Nat) (zs : List Int) (w : World) (h : IsRow .u8 w A n c zs) :
    Calls Try.prog 12 #[.slice A n c] w fun e w' => e = .returned (.bool true) ∧ Below w.heap.size w w' := by
  by_cases hn : 1048576 < n
  · have hn' : (1048576 : Int) < n := by omega
    clear h
    go_enter Try.func12, Try.ntmps12
    go_wp2_with (fail)
    go_ret
    exact ⟨rfl, (by repeat' (first | with_reducible exact Below.refl _ _ | with_reducible assumption | with_reducible refine bel_step (by with_reducible assumption) ?_ ?_ | with_reducible refine Below.drew ?_ | with_reducible refine below_drewN ?_ _ | with_reducible refine Below.alloc ?_ ?_ _ | with_reducible refine Below.setCell ?_ ?_ _ | (simp; done) | (simp; omega) | omega | with_reducible refine below_le (by with_reducible assumption) ?_))⟩
  · have hn' : (n : Int) ≤ 1048576 := by omega
    have H := Lib.hid h
    clear h hn
    go_enter Try.func12, Try.ntmps12
    go_wp2_with (fail)
    refine (drawSlotBelow_any _ _ _ _ _ H.out).mono ?_
    rintro e w1 ⟨b, r, t, s, rfl, hb1⟩
    obtain ⟨hc1, hf1⟩ := bcell hb1
    have z1 := hb1.size
    rcases below_place b r t s with ⟨h0, h1⟩ | ⟨h0, h1, h2, h3⟩
    · go_wp2_with (first
        | (go_at_call 23; refine (implSlotBelow_any _ _ _ _ _).mono ?_; rintro e v1 ⟨rfl, hb1⟩; obtain ⟨hc1, hf1⟩ := bcell hb1; have z1 := hb1.size; (try simp at z1); (have y0 : w1.heap.size < v1.heap.size := by omega))
        | (go_at_call 22; refine (specSlotBelow_any _ _ _ _ _).mono ?_; rintro e v1 ⟨rfl, hb1⟩; obtain ⟨hc1, hf1⟩ := bcell hb1; have z1 := hb1.size; (try simp at z1); (have y0 : w1.heap.size < v1.heap.size := by omega))
        | (go_at_call 21; refine (implPlaceOf_any _ _ _ _ _).mono ?_; rintro e v1 ⟨rfl, hb1⟩; obtain ⟨hc1, hf1⟩ := bcell hb1; have z1 := hb1.size; (try simp at z1); (have y0 : w1.heap.size < v1.heap.size := by omega))
        | (go_at_call 25; refine (alive_any _).mono ?_; rintro e w' ⟨rfl, rfl⟩))
      go_ret
      exact ⟨rfl, (by repeat' (first | with_reducible exact Below.refl _ _ | with_reducible assumption | with_reducible refine bel_step (by with_reducible assumption) ?_ ?_ | with_reducible refine Below.drew ?_ | with_reducible refine below_drewN ?_ _ | with_reducible refine Below.alloc ?_ ?_ _ | with_reducible refine Below.setCell ?_ ?_ _ | (simp; done) | (simp; omega) | omega | with_reducible refine below_le (by with_reducible assumption) ?_))⟩
    · have q1 := placeT_bounds b r t s
      obtain ⟨q2, q3⟩ := q1
      obtain ⟨x, hx⟩ : ∃ x, belowV b r t s = x := ⟨_, rfl⟩
      rw [hx] at h0 h1 h2 h3
      go_wp2_with (first
        | (go_at_call 23; refine (implSlotBelow_any _ _ _ _ _).mono ?_; rintro e v1 ⟨rfl, hb1⟩; obtain ⟨hc1, hf1⟩ := bcell hb1; have z1 := hb1.size; (try simp at z1); (have y0 : w1.heap.size < v1.heap.size := by omega))
        | (go_at_call 22; refine (specSlotBelow_any _ _ _ _ _).mono ?_; rintro e v1 ⟨rfl, hb1⟩; obtain ⟨hc1, hf1⟩ := bcell hb1; have z1 := hb1.size; (try simp at z1); (have y0 : w1.heap.size < v1.heap.size := by omega))
        | (go_at_call 21; refine (implPlaceOf_any _ _ _ _ _).mono ?_; rintro e v1 ⟨rfl, hb1⟩; obtain ⟨hc1, hf1⟩ := bcell hb1; have z1 := hb1.size; (try simp at z1); (have y0 : w1.heap.size < v1.heap.size := by omega))
        | (go_at_call 25; refine (alive_any _).mono ?_; rintro e w' ⟨rfl, rfl⟩))
      go_ret
      exact ⟨rfl, (by repeat' (first | with_reducible exact Below.refl _ _ | with_reducible assumption | with_reducible refine bel_step (by with_reducible assumption) ?_ ?_ | with_reducible refine Below.drew ?_ | with_reducible refine below_drewN ?_ _ | with_reducible refine Below.alloc ?_ ?_ _ | with_reducible refine Below.setCell ?_ ?_ _ | (simp; done) | (simp; omega) | omega | with_reducible refine below_le (by with_reducible assumption) ?_))⟩
end Go.Proofs.Ytdmokkabkobjmaa
