/- The contracts of the functions on hulls: what each of them returns. Conditions: those in each statement. -/
import Derived.Test.YtdmokkabkobjmaaProg
import Derived.Test.YtdmokkabkobjmaaKit
namespace Go.Proofs.Ytdmokkabkobjmaa
open Go.RowKit
set_option linter.unusedVariables false

def hullB (b r t : Int) : Bool := inR b 1 4 && inR r 1 3 && inR t 1 3
theorem hullB_iff {b r t : Int} : hullB b r t = true ↔ (1 ≤ b ∧ b ≤ 4) ∧ (1 ≤ r ∧ r ≤ 3) ∧ (1 ≤ t ∧ t ≤ 3) := by
  simp [hullB, inR_iff, and_assoc]

/-- products of a valid hull are small -/
theorem mul_small {a b A B : Int} (ha : 0 ≤ a) (hA : a ≤ A) (hb : 0 ≤ b) (hB : b ≤ B) : 0 ≤ a * b ∧ a * b ≤ A * B :=
  ⟨Int.mul_nonneg ha hb, Int.mul_le_mul hA hB hb (Int.le_trans ha hA)⟩

set_option maxHeartbeats 400000 in
theorem within_any (n lo hi : Int) (w : World) :
    Calls Try.prog 31 #[.int .i64 n, .int .i64 lo, .int .i64 hi] w fun e w' => e = .returned (.bool (inR n lo hi)) ∧ w = w' := by
  go_enter Try.func31, Try.ntmps31
  go_wp2
  all_goals
    go_ret
    exact ⟨ret_bool (by simp [inR] <;> omega), rfl⟩

set_option maxHeartbeats 400000 in
theorem l1In_any (n lo hi : Int) (w : World) :
    Calls Try.prog 30 #[.int .i64 n, .int .i64 lo, .int .i64 hi] w fun e w' => e = .returned (.bool (inR n lo hi)) ∧ w = w' := by
  go_enter Try.func30, Try.ntmps30
  go_wp2
  all_goals
    go_ret
    exact ⟨ret_bool (by simp [inR] <;> omega), rfl⟩

set_option maxHeartbeats 400000 in
theorem implHullValid_any (b r t : Int) (w : World) :
    Calls Try.prog 15 #[.agg #[.int .i64 b, .int .i64 r, .int .i64 t]] w fun e w' => e = .returned (.bool (hullB b r t)) ∧ Below w.heap.size w w' := by
  go_enter Try.func15, Try.ntmps15
  go_wp2_with (go_at_call 31; refine (within_any _ _ _ _).mono ?_; rintro e w' ⟨rfl, rfl⟩)
  all_goals
    go_ret
    exact ⟨ret_bool (by simp [hullB, *]), (by repeat' (first | exact Below.refl _ _ | assumption | refine bel_step (by assumption) ?_ ?_ | refine Below.drew ?_ | refine below_drewN ?_ _ | refine Below.alloc ?_ ?_ _ | refine Below.setCell ?_ ?_ _ | (simp; done) | (simp; omega) | omega | refine below_le (by assumption) ?_))⟩
theorem implHullValid_yes (b r t : Int) (w : World) (h : hullB b r t = true) :
    Calls Try.prog 15 #[.agg #[.int .i64 b, .int .i64 r, .int .i64 t]] w fun e w' => e = .returned (.bool true) ∧ Below w.heap.size w w' := h ▸ implHullValid_any b r t w
theorem implHullValid_no (b r t : Int) (w : World) (h : hullB b r t = false) :
    Calls Try.prog 15 #[.agg #[.int .i64 b, .int .i64 r, .int .i64 t]] w fun e w' => e = .returned (.bool false) ∧ Below w.heap.size w w' := h ▸ implHullValid_any b r t w

set_option maxHeartbeats 400000 in
theorem specHullValid_any (b r t : Int) (w : World) :
    Calls Try.prog 13 #[.agg #[.int .i64 b, .int .i64 r, .int .i64 t]] w fun e w' => e = .returned (.bool (hullB b r t)) ∧ Below w.heap.size w w' := by
  go_enter Try.func13, Try.ntmps13
  go_wp2_with (go_at_call 30; refine (l1In_any _ _ _ _).mono ?_; rintro e w' ⟨rfl, rfl⟩)
  all_goals
    go_ret
    exact ⟨ret_bool (by simp [hullB, *]), (by repeat' (first | exact Below.refl _ _ | assumption | refine bel_step (by assumption) ?_ ?_ | refine Below.drew ?_ | refine below_drewN ?_ _ | refine Below.alloc ?_ ?_ _ | refine Below.setCell ?_ ?_ _ | (simp; done) | (simp; omega) | omega | refine below_le (by assumption) ?_))⟩
theorem specHullValid_yes (b r t : Int) (w : World) (h : hullB b r t = true) :
    Calls Try.prog 13 #[.agg #[.int .i64 b, .int .i64 r, .int .i64 t]] w fun e w' => e = .returned (.bool true) ∧ Below w.heap.size w w' := h ▸ specHullValid_any b r t w
theorem specHullValid_no (b r t : Int) (w : World) (h : hullB b r t = false) :
    Calls Try.prog 13 #[.agg #[.int .i64 b, .int .i64 r, .int .i64 t]] w fun e w' => e = .returned (.bool false) ∧ Below w.heap.size w w' := h ▸ specHullValid_any b r t w

set_option maxHeartbeats 400000 in
theorem toHull_any (b r t : Int) (w : World) :
    Calls Try.prog 14 #[.agg #[.int .i64 b, .int .i64 r, .int .i64 t]] w fun e w' => e = .returned (.agg #[.int .i64 b, .int .i64 r, .int .i64 t]) ∧ Below w.heap.size w w' := by
  go_enter Try.func14, Try.ntmps14
  go_wp2
  exact bodyPost_ret (v := .agg #[.int .i64 b, .int .i64 r, .int .i64 t]) (by simp [results, Try.results14, go_sem]) rfl ⟨rfl, (by repeat' (first | exact Below.refl _ _ | assumption | refine bel_step (by assumption) ?_ ?_ | refine Below.drew ?_ | refine below_drewN ?_ _ | refine Below.alloc ?_ ?_ _ | refine Below.setCell ?_ ?_ _ | (simp; done) | (simp; omega) | omega | refine below_le (by assumption) ?_))⟩

def slotManyV (b r t : Int) : Int := if hullB b r t then b * r * t else -1

set_option maxHeartbeats 400000 in
theorem slots_any (b r t : Int) (w : World) (h : hullB b r t = true) :
    Calls Try.prog 32 #[.agg #[.int .i64 b, .int .i64 r, .int .i64 t]] w fun e w' => e = .returned (.int .i64 (b * r * t)) ∧ Below w.heap.size w w' := by
  obtain ⟨⟨hb, hb'⟩, ⟨hr, hr'⟩, ht, ht'⟩ := hullB_iff.1 h
  clear h
  obtain ⟨p1, p2⟩ := mul_small (a := b) (b := r) (A := 4) (B := 3) (by omega) hb' (by omega) hr'
  obtain ⟨p3, p4⟩ := mul_small (a := b * r) (b := t) (A := 12) (B := 3) (by omega) (by omega) (by omega) ht'
  go_enter Try.func32, Try.ntmps32
  go_wp2
  go_ret
  exact ⟨rfl, (by repeat' (first | exact Below.refl _ _ | assumption | refine bel_step (by assumption) ?_ ?_ | refine Below.drew ?_ | refine below_drewN ?_ _ | refine Below.alloc ?_ ?_ _ | refine Below.setCell ?_ ?_ _ | (simp; done) | (simp; omega) | omega | refine below_le (by assumption) ?_))⟩

def slotOfV (b r t bay row tier : Int) : Int := if hullB b r t && inR bay 0 (b - 1) && inR row 0 (r - 1) && inR tier 0 (t - 1) then (bay * r + row) * t + tier else -1

set_option maxHeartbeats 800000 in
theorem implSlotOf_any (b r t bay row tier : Int) (w : World) :
    Calls Try.prog 17 #[.agg #[.int .i64 b, .int .i64 r, .int .i64 t], .int .i64 bay, .int .i64 row, .int .i64 tier] w fun e w' => e = .returned (.int .i64 (slotOfV b r t bay row tier)) ∧ Below w.heap.size w w' := by
  cases h : hullB b r t with
  | false =>
    go_enter Try.func17, Try.ntmps17
    go_wp2_with (first
      | (go_at_call 15; refine (implHullValid_no _ _ _ _ h).mono ?_; rintro e w1 ⟨rfl, hb⟩))
    go_ret
    exact ⟨ret_int (by simp [slotOfV, h]), (by repeat' (first | exact Below.refl _ _ | assumption | refine bel_step (by assumption) ?_ ?_ | refine Below.drew ?_ | refine below_drewN ?_ _ | refine Below.alloc ?_ ?_ _ | refine Below.setCell ?_ ?_ _ | (simp; done) | (simp; omega) | omega | refine below_le (by assumption) ?_))⟩
  | true =>
    obtain ⟨⟨hb, hb'⟩, ⟨hr, hr'⟩, ht, ht'⟩ := hullB_iff.1 h
    cases g : (inR bay 0 (b - 1) && inR row 0 (r - 1) && inR tier 0 (t - 1)) with
    | true =>
      have g' := g
      simp only [Bool.and_eq_true] at g'
      obtain ⟨⟨g1, g2⟩, g3⟩ := g'
      have b1 := inR_iff.1 g1
      have b2 := inR_iff.1 g2
      have b3 := inR_iff.1 g3
      obtain ⟨p1, p2⟩ := mul_small (a := bay) (b := r) (A := 3) (B := 3) (by omega) (by omega) (by omega) hr'
      obtain ⟨p3, p4⟩ := mul_small (a := bay * r + row) (b := t) (A := 11) (B := 3) (by omega) (by omega) (by omega) ht'
      have hfin : slotOfV b r t bay row tier = (bay * r + row) * t + tier := by simp [slotOfV, h, g1, g2, g3]
      have Hfin := Lib.hid hfin
      clear hfin g
      go_enter Try.func17, Try.ntmps17
      go_wp2_with (first
        | (go_at_call 15; refine (implHullValid_yes _ _ _ _ h).mono ?_; rintro e w1 ⟨rfl, hb1⟩; obtain ⟨hc1, hf1⟩ := bcell hb1)
        | (go_at_call 31; refine (within_any _ _ _ _).mono ?_; rintro e w' ⟨rfl, rfl⟩))
      go_ret
      exact ⟨ret_int (by rw [Hfin.out]), (by repeat' (first | exact Below.refl _ _ | assumption | refine bel_step (by assumption) ?_ ?_ | refine Below.drew ?_ | refine below_drewN ?_ _ | refine Below.alloc ?_ ?_ _ | refine Below.setCell ?_ ?_ _ | (simp; done) | (simp; omega) | omega | refine below_le (by assumption) ?_))⟩
    | false =>
      have hfin : slotOfV b r t bay row tier = -1 := by simp [slotOfV, h, g]
      have Hfin := Lib.hid hfin
      have Hg := Lib.hid g
      clear hfin g
      go_enter Try.func17, Try.ntmps17
      go_wp2_with (first
        | (go_at_call 15; refine (implHullValid_yes _ _ _ _ h).mono ?_; rintro e w1 ⟨rfl, hb1⟩; obtain ⟨hc1, hf1⟩ := bcell hb1)
        | (go_at_call 31; refine (within_any _ _ _ _).mono ?_; rintro e w' ⟨rfl, rfl⟩))
      all_goals go_ret
      all_goals first
        | (exfalso; have := Hg.out; simp_all; done)
        | exact ⟨ret_int (by rw [Hfin.out]), (by repeat' (first | exact Below.refl _ _ | assumption | refine bel_step (by assumption) ?_ ?_ | refine Below.drew ?_ | refine below_drewN ?_ _ | refine Below.alloc ?_ ?_ _ | refine Below.setCell ?_ ?_ _ | (simp; done) | (simp; omega) | omega | refine below_le (by assumption) ?_))⟩
set_option maxHeartbeats 800000 in
theorem specSlotOf_any (b r t bay row tier : Int) (w : World) :
    Calls Try.prog 16 #[.agg #[.int .i64 b, .int .i64 r, .int .i64 t], .int .i64 bay, .int .i64 row, .int .i64 tier] w fun e w' => e = .returned (.int .i64 (slotOfV b r t bay row tier)) ∧ Below w.heap.size w w' := by
  cases h : hullB b r t with
  | false =>
    go_enter Try.func16, Try.ntmps16
    go_wp2_with (first
      | (go_at_call 13; refine (specHullValid_no _ _ _ _ h).mono ?_; rintro e w1 ⟨rfl, hb⟩))
    go_ret
    exact ⟨ret_int (by simp [slotOfV, h]), (by repeat' (first | exact Below.refl _ _ | assumption | refine bel_step (by assumption) ?_ ?_ | refine Below.drew ?_ | refine below_drewN ?_ _ | refine Below.alloc ?_ ?_ _ | refine Below.setCell ?_ ?_ _ | (simp; done) | (simp; omega) | omega | refine below_le (by assumption) ?_))⟩
  | true =>
    obtain ⟨⟨hb, hb'⟩, ⟨hr, hr'⟩, ht, ht'⟩ := hullB_iff.1 h
    cases g : (inR bay 0 (b - 1) && inR row 0 (r - 1) && inR tier 0 (t - 1)) with
    | true =>
      have g' := g
      simp only [Bool.and_eq_true] at g'
      obtain ⟨⟨g1, g2⟩, g3⟩ := g'
      have b1 := inR_iff.1 g1
      have b2 := inR_iff.1 g2
      have b3 := inR_iff.1 g3
      obtain ⟨p1, p2⟩ := mul_small (a := bay) (b := r) (A := 3) (B := 3) (by omega) (by omega) (by omega) hr'
      obtain ⟨p3, p4⟩ := mul_small (a := bay * r + row) (b := t) (A := 11) (B := 3) (by omega) (by omega) (by omega) ht'
      have hfin : slotOfV b r t bay row tier = (bay * r + row) * t + tier := by simp [slotOfV, h, g1, g2, g3]
      have Hfin := Lib.hid hfin
      clear hfin g
      go_enter Try.func16, Try.ntmps16
      go_wp2_with (first
        | (go_at_call 13; refine (specHullValid_yes _ _ _ _ h).mono ?_; rintro e w1 ⟨rfl, hb1⟩; obtain ⟨hc1, hf1⟩ := bcell hb1)
        | (go_at_call 30; refine (l1In_any _ _ _ _).mono ?_; rintro e w' ⟨rfl, rfl⟩))
      go_ret
      exact ⟨ret_int (by rw [Hfin.out]), (by repeat' (first | exact Below.refl _ _ | assumption | refine bel_step (by assumption) ?_ ?_ | refine Below.drew ?_ | refine below_drewN ?_ _ | refine Below.alloc ?_ ?_ _ | refine Below.setCell ?_ ?_ _ | (simp; done) | (simp; omega) | omega | refine below_le (by assumption) ?_))⟩
    | false =>
      have hfin : slotOfV b r t bay row tier = -1 := by simp [slotOfV, h, g]
      have Hfin := Lib.hid hfin
      have Hg := Lib.hid g
      clear hfin g
      go_enter Try.func16, Try.ntmps16
      go_wp2_with (first
        | (go_at_call 13; refine (specHullValid_yes _ _ _ _ h).mono ?_; rintro e w1 ⟨rfl, hb1⟩; obtain ⟨hc1, hf1⟩ := bcell hb1)
        | (go_at_call 30; refine (l1In_any _ _ _ _).mono ?_; rintro e w' ⟨rfl, rfl⟩))
      all_goals go_ret
      all_goals first
        | (exfalso; have := Hg.out; simp_all; done)
        | exact ⟨ret_int (by rw [Hfin.out]), (by repeat' (first | exact Below.refl _ _ | assumption | refine bel_step (by assumption) ?_ ?_ | refine Below.drew ?_ | refine below_drewN ?_ _ | refine Below.alloc ?_ ?_ _ | refine Below.setCell ?_ ?_ _ | (simp; done) | (simp; omega) | omega | refine below_le (by assumption) ?_))⟩

set_option maxHeartbeats 400000 in
theorem implSlotMany_any (b r t : Int) (w : World) :
    Calls Try.prog 19 #[.agg #[.int .i64 b, .int .i64 r, .int .i64 t]] w fun e w' => e = .returned (.int .i64 (slotManyV b r t)) ∧ Below w.heap.size w w' := by
  cases h : hullB b r t with
  | false =>
    go_enter Try.func19, Try.ntmps19
    go_wp2_with (first
      | (go_at_call 15; refine (implHullValid_no _ _ _ _ h).mono ?_; rintro e w1 ⟨rfl, hb⟩))
    go_ret
    exact ⟨ret_int (by simp [slotManyV, h]), (by repeat' (first | exact Below.refl _ _ | assumption | refine bel_step (by assumption) ?_ ?_ | refine Below.drew ?_ | refine below_drewN ?_ _ | refine Below.alloc ?_ ?_ _ | refine Below.setCell ?_ ?_ _ | (simp; done) | (simp; omega) | omega | refine below_le (by assumption) ?_))⟩
  | true =>
    have hfin : slotManyV b r t = b * r * t := by simp [slotManyV, h]
    have Hfin := Lib.hid hfin
    clear hfin
    go_enter Try.func19, Try.ntmps19
    go_wp2_with (first
      | (go_at_call 15; refine (implHullValid_yes _ _ _ _ h).mono ?_; rintro e w1 ⟨rfl, hb1⟩; obtain ⟨hc1, hf1⟩ := bcell hb1)
      | (go_at_call 32; refine (slots_any _ _ _ _ h).mono ?_; rintro e w2 ⟨rfl, hb2⟩))
    go_ret
    exact ⟨ret_int (by rw [Hfin.out]), (by repeat' (first | exact Below.refl _ _ | assumption | refine bel_step (by assumption) ?_ ?_ | refine Below.drew ?_ | refine below_drewN ?_ _ | refine Below.alloc ?_ ?_ _ | refine Below.setCell ?_ ?_ _ | (simp; done) | (simp; omega) | omega | refine below_le (by assumption) ?_))⟩

set_option maxHeartbeats 400000 in
theorem specSlotMany_any (b r t : Int) (w : World) :
    Calls Try.prog 18 #[.agg #[.int .i64 b, .int .i64 r, .int .i64 t]] w fun e w' => e = .returned (.int .i64 (slotManyV b r t)) ∧ Below w.heap.size w w' := by
  cases h : hullB b r t with
  | false =>
    go_enter Try.func18, Try.ntmps18
    go_wp2_with (first
      | (go_at_call 13; refine (specHullValid_no _ _ _ _ h).mono ?_; rintro e w1 ⟨rfl, hb⟩))
    go_ret
    exact ⟨ret_int (by simp [slotManyV, h]), (by repeat' (first | exact Below.refl _ _ | assumption | refine bel_step (by assumption) ?_ ?_ | refine Below.drew ?_ | refine below_drewN ?_ _ | refine Below.alloc ?_ ?_ _ | refine Below.setCell ?_ ?_ _ | (simp; done) | (simp; omega) | omega | refine below_le (by assumption) ?_))⟩
  | true =>
    obtain ⟨⟨hb, hb'⟩, ⟨hr, hr'⟩, ht, ht'⟩ := hullB_iff.1 h
    obtain ⟨p1, p2⟩ := mul_small (a := b) (b := r) (A := 4) (B := 3) (by omega) hb' (by omega) hr'
    obtain ⟨p3, p4⟩ := mul_small (a := b * r) (b := t) (A := 12) (B := 3) (by omega) (by omega) (by omega) ht'
    have hfin : slotManyV b r t = b * r * t := by simp [slotManyV, h]
    have Hfin := Lib.hid hfin
    clear hfin
    go_enter Try.func18, Try.ntmps18
    go_wp2_with (first
      | (go_at_call 13; refine (specHullValid_yes _ _ _ _ h).mono ?_; rintro e w1 ⟨rfl, hb1⟩; obtain ⟨hc1, hf1⟩ := bcell hb1))
    go_ret
    exact ⟨ret_int (by rw [Hfin.out]), (by repeat' (first | exact Below.refl _ _ | assumption | refine bel_step (by assumption) ?_ ?_ | refine Below.drew ?_ | refine below_drewN ?_ _ | refine Below.alloc ?_ ?_ _ | refine Below.setCell ?_ ?_ _ | (simp; done) | (simp; omega) | omega | refine below_le (by assumption) ?_))⟩
end Go.Proofs.Ytdmokkabkobjmaa
