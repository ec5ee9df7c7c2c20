/- The contracts of the functions on hulls: what each of them returns. Conditions: those in each statement. -/
import Derived.Test.YtfdnikmmfnhmbaaProg
import Derived.Test.YtfdnikmmfnhmbaaWithin
namespace Go.Proofs.Ytfdnikmmfnhmbaa
open Go.RowKit
set_option linter.unusedVariables false

def hullB (b r t : Int) : Bool := inR b 1 4 && inR r 1 3 && inR t 1 3
theorem hullB_iff {b r t : Int} : hullB b r t = true ↔ (1 ≤ b ∧ b ≤ 4) ∧ (1 ≤ r ∧ r ≤ 3) ∧ (1 ≤ t ∧ t ≤ 3) := by
  simp [hullB, inR_iff, and_assoc]

/-- products of a valid hull are small -/
theorem mul_small {a b A B : Int} (ha : 0 ≤ a) (hA : a ≤ A) (hb : 0 ≤ b) (hB : b ≤ B) : 0 ≤ a * b ∧ a * b ≤ A * B :=
  ⟨Int.mul_nonneg ha hb, Int.mul_le_mul hA hB hb (Int.le_trans ha hA)⟩

set_option maxHeartbeats 400000 in
theorem implHullValid_any (b r t : Int) (w : World) :
    Calls Try.prog 33 #[.agg #[.int .i64 b, .int .i64 r, .int .i64 t]] w fun e w' => e = .returned (.bool (hullB b r t)) ∧ Below w.heap.size w w' := by
  go_enter Try.func33, Try.ntmps33
  go_wp2_with (go_at_call 52; refine (within_any _ _ _ _).mono ?_; rintro e w' ⟨rfl, rfl⟩)
  all_goals
    go_ret
    exact ⟨ret_bool (by simp [hullB, *]), (by repeat' (first | with_reducible exact Below.refl _ _ | with_reducible assumption | with_reducible refine bel_step (by with_reducible assumption) ?_ ?_ | with_reducible refine Below.drew ?_ | with_reducible refine below_drewN ?_ _ | with_reducible refine Below.alloc ?_ ?_ _ | with_reducible refine Below.setCell ?_ ?_ _ | (simp; done) | (simp; omega) | omega | with_reducible refine below_le (by with_reducible assumption) ?_))⟩
theorem implHullValid_yes (b r t : Int) (w : World) (h : hullB b r t = true) :
    Calls Try.prog 33 #[.agg #[.int .i64 b, .int .i64 r, .int .i64 t]] w fun e w' => e = .returned (.bool true) ∧ Below w.heap.size w w' := h ▸ implHullValid_any b r t w
theorem implHullValid_no (b r t : Int) (w : World) (h : hullB b r t = false) :
    Calls Try.prog 33 #[.agg #[.int .i64 b, .int .i64 r, .int .i64 t]] w fun e w' => e = .returned (.bool false) ∧ Below w.heap.size w w' := h ▸ implHullValid_any b r t w

set_option maxHeartbeats 400000 in
theorem specHullValid_any (b r t : Int) (w : World) :
    Calls Try.prog 36 #[.agg #[.int .i64 b, .int .i64 r, .int .i64 t]] w fun e w' => e = .returned (.bool (hullB b r t)) ∧ Below w.heap.size w w' := by
  go_enter Try.func36, Try.ntmps36
  go_wp2_with (go_at_call 50; refine (l1In_any _ _ _ _).mono ?_; rintro e w' ⟨rfl, rfl⟩)
  all_goals
    go_ret
    exact ⟨ret_bool (by simp [hullB, *]), (by repeat' (first | with_reducible exact Below.refl _ _ | with_reducible assumption | with_reducible refine bel_step (by with_reducible assumption) ?_ ?_ | with_reducible refine Below.drew ?_ | with_reducible refine below_drewN ?_ _ | with_reducible refine Below.alloc ?_ ?_ _ | with_reducible refine Below.setCell ?_ ?_ _ | (simp; done) | (simp; omega) | omega | with_reducible refine below_le (by with_reducible assumption) ?_))⟩
theorem specHullValid_yes (b r t : Int) (w : World) (h : hullB b r t = true) :
    Calls Try.prog 36 #[.agg #[.int .i64 b, .int .i64 r, .int .i64 t]] w fun e w' => e = .returned (.bool true) ∧ Below w.heap.size w w' := h ▸ specHullValid_any b r t w
theorem specHullValid_no (b r t : Int) (w : World) (h : hullB b r t = false) :
    Calls Try.prog 36 #[.agg #[.int .i64 b, .int .i64 r, .int .i64 t]] w fun e w' => e = .returned (.bool false) ∧ Below w.heap.size w w' := h ▸ specHullValid_any b r t w

set_option maxHeartbeats 400000 in
theorem toHull_any (b r t : Int) (w : World) :
    Calls Try.prog 11 #[.agg #[.int .i64 b, .int .i64 r, .int .i64 t]] w fun e w' => e = .returned (.agg #[.int .i64 b, .int .i64 r, .int .i64 t]) ∧ Below w.heap.size w w' := by
  go_enter Try.func11, Try.ntmps11
  go_wp2
  exact bodyPost_ret (v := .agg #[.int .i64 b, .int .i64 r, .int .i64 t]) (by simp [results, Try.results11, go_sem]) rfl ⟨rfl, (by repeat' (first | with_reducible exact Below.refl _ _ | with_reducible assumption | with_reducible refine bel_step (by with_reducible assumption) ?_ ?_ | with_reducible refine Below.drew ?_ | with_reducible refine below_drewN ?_ _ | with_reducible refine Below.alloc ?_ ?_ _ | with_reducible refine Below.setCell ?_ ?_ _ | (simp; done) | (simp; omega) | omega | with_reducible refine below_le (by with_reducible assumption) ?_))⟩

def slotManyV (b r t : Int) : Int := if hullB b r t then b * r * t else -1

set_option maxHeartbeats 400000 in
theorem slots_any (b r t : Int) (w : World) (h : hullB b r t = true) :
    Calls Try.prog 38 #[.agg #[.int .i64 b, .int .i64 r, .int .i64 t]] w fun e w' => e = .returned (.int .i64 (b * r * t)) ∧ Below w.heap.size w w' := by
  obtain ⟨⟨hb, hb'⟩, ⟨hr, hr'⟩, ht, ht'⟩ := hullB_iff.1 h
  clear h
  obtain ⟨p1, p2⟩ := mul_small (a := b) (b := r) (A := 4) (B := 3) (by omega) hb' (by omega) hr'
  obtain ⟨p3, p4⟩ := mul_small (a := b * r) (b := t) (A := 12) (B := 3) (by omega) (by omega) (by omega) ht'
  go_enter Try.func38, Try.ntmps38
  go_wp2
  go_ret
  exact ⟨rfl, (by repeat' (first | with_reducible exact Below.refl _ _ | with_reducible assumption | with_reducible refine bel_step (by with_reducible assumption) ?_ ?_ | with_reducible refine Below.drew ?_ | with_reducible refine below_drewN ?_ _ | with_reducible refine Below.alloc ?_ ?_ _ | with_reducible refine Below.setCell ?_ ?_ _ | (simp; done) | (simp; omega) | omega | with_reducible refine below_le (by with_reducible assumption) ?_))⟩

def slotOfV (b r t bay row tier : Int) : Int := if hullB b r t && inR bay 0 (b - 1) && inR row 0 (r - 1) && inR tier 0 (t - 1) then (bay * r + row) * t + tier else -1


set_option maxHeartbeats 800000 in
theorem specSlotOf_any (b r t bay row tier : Int) (w : World) :
    Calls Try.prog 58 #[.agg #[.int .i64 b, .int .i64 r, .int .i64 t], .int .i64 bay, .int .i64 row, .int .i64 tier] w fun e w' => e = .returned (.int .i64 (slotOfV b r t bay row tier)) ∧ Below w.heap.size w w' := by
  cases h : hullB b r t with
  | false =>
    go_enter Try.func58, Try.ntmps58
    go_wp2_with (first
      | (go_at_call 36; refine (specHullValid_no _ _ _ _ h).mono ?_; rintro e w1 ⟨rfl, hb⟩))
    go_ret
    exact ⟨ret_int (by simp [slotOfV, h]), (by repeat' (first | with_reducible exact Below.refl _ _ | with_reducible assumption | with_reducible refine bel_step (by with_reducible assumption) ?_ ?_ | with_reducible refine Below.drew ?_ | with_reducible refine below_drewN ?_ _ | with_reducible refine Below.alloc ?_ ?_ _ | with_reducible refine Below.setCell ?_ ?_ _ | (simp; done) | (simp; omega) | omega | with_reducible refine below_le (by with_reducible assumption) ?_))⟩
  | true =>
    obtain ⟨⟨hb, hb'⟩, ⟨hr, hr'⟩, ht, ht'⟩ := hullB_iff.1 h
    cases g : (inR bay 0 (b - 1) && inR row 0 (r - 1) && inR tier 0 (t - 1)) with
    | true =>
      have g' := g
      simp only [Bool.and_eq_true] at g'
      obtain ⟨⟨g1, g2⟩, g3⟩ := g'
      have b1 := inR_iff.1 g1
      have b2 := inR_iff.1 g2
      have b3 := inR_iff.1 g3
      obtain ⟨p1, p2⟩ := mul_small (a := bay) (b := r) (A := 3) (B := 3) (by omega) (by omega) (by omega) hr'
      obtain ⟨p3, p4⟩ := mul_small (a := bay * r + row) (b := t) (A := 11) (B := 3) (by omega) (by omega) (by omega) ht'
      have hfin : slotOfV b r t bay row tier = (bay * r + row) * t + tier := by simp [slotOfV, h, g1, g2, g3]
      have Hfin := Lib.hid hfin
      clear hfin g
      go_enter Try.func58, Try.ntmps58
      go_wp2_with (first
        | (go_at_call 36; refine (specHullValid_yes _ _ _ _ h).mono ?_; rintro e w1 ⟨rfl, hb1⟩; obtain ⟨hc1, hf1⟩ := bcell hb1)
        | (go_at_call 50; refine (l1In_any _ _ _ _).mono ?_; rintro e w' ⟨rfl, rfl⟩))
      go_ret
      exact ⟨ret_int (by rw [Hfin.out]), (by repeat' (first | with_reducible exact Below.refl _ _ | with_reducible assumption | with_reducible refine bel_step (by with_reducible assumption) ?_ ?_ | with_reducible refine Below.drew ?_ | with_reducible refine below_drewN ?_ _ | with_reducible refine Below.alloc ?_ ?_ _ | with_reducible refine Below.setCell ?_ ?_ _ | (simp; done) | (simp; omega) | omega | with_reducible refine below_le (by with_reducible assumption) ?_))⟩
    | false =>
      have hfin : slotOfV b r t bay row tier = -1 := by simp [slotOfV, h, g]
      have Hfin := Lib.hid hfin
      have Hg := Lib.hid g
      clear hfin g
      go_enter Try.func58, Try.ntmps58
      go_wp2_with (first
        | (go_at_call 36; refine (specHullValid_yes _ _ _ _ h).mono ?_; rintro e w1 ⟨rfl, hb1⟩; obtain ⟨hc1, hf1⟩ := bcell hb1)
        | (go_at_call 50; refine (l1In_any _ _ _ _).mono ?_; rintro e w' ⟨rfl, rfl⟩))
      all_goals go_ret
      all_goals first
        | (exfalso; have := Hg.out; simp_all; done)
        | exact ⟨ret_int (by rw [Hfin.out]), (by repeat' (first | with_reducible exact Below.refl _ _ | with_reducible assumption | with_reducible refine bel_step (by with_reducible assumption) ?_ ?_ | with_reducible refine Below.drew ?_ | with_reducible refine below_drewN ?_ _ | with_reducible refine Below.alloc ?_ ?_ _ | with_reducible refine Below.setCell ?_ ?_ _ | (simp; done) | (simp; omega) | omega | with_reducible refine below_le (by with_reducible assumption) ?_))⟩

set_option maxHeartbeats 400000 in
theorem implSlotMany_any (b r t : Int) (w : World) :
    Calls Try.prog 35 #[.agg #[.int .i64 b, .int .i64 r, .int .i64 t]] w fun e w' => e = .returned (.int .i64 (slotManyV b r t)) ∧ Below w.heap.size w w' := by
  cases h : hullB b r t with
  | false =>
    go_enter Try.func35, Try.ntmps35
    go_wp2_with (first
      | (go_at_call 33; refine (implHullValid_no _ _ _ _ h).mono ?_; rintro e w1 ⟨rfl, hb⟩))
    go_ret
    exact ⟨ret_int (by simp [slotManyV, h]), (by repeat' (first | with_reducible exact Below.refl _ _ | with_reducible assumption | with_reducible refine bel_step (by with_reducible assumption) ?_ ?_ | with_reducible refine Below.drew ?_ | with_reducible refine below_drewN ?_ _ | with_reducible refine Below.alloc ?_ ?_ _ | with_reducible refine Below.setCell ?_ ?_ _ | (simp; done) | (simp; omega) | omega | with_reducible refine below_le (by with_reducible assumption) ?_))⟩
  | true =>
    have hfin : slotManyV b r t = b * r * t := by simp [slotManyV, h]
    have Hfin := Lib.hid hfin
    clear hfin
    go_enter Try.func35, Try.ntmps35
    go_wp2_with (first
      | (go_at_call 33; refine (implHullValid_yes _ _ _ _ h).mono ?_; rintro e w1 ⟨rfl, hb1⟩; obtain ⟨hc1, hf1⟩ := bcell hb1)
      | (go_at_call 38; refine (slots_any _ _ _ _ h).mono ?_; rintro e w2 ⟨rfl, hb2⟩))
    go_ret
    exact ⟨ret_int (by rw [Hfin.out]), (by repeat' (first | with_reducible exact Below.refl _ _ | with_reducible assumption | with_reducible refine bel_step (by with_reducible assumption) ?_ ?_ | with_reducible refine Below.drew ?_ | with_reducible refine below_drewN ?_ _ | with_reducible refine Below.alloc ?_ ?_ _ | with_reducible refine Below.setCell ?_ ?_ _ | (simp; done) | (simp; omega) | omega | with_reducible refine below_le (by with_reducible assumption) ?_))⟩

set_option maxHeartbeats 400000 in
theorem specSlotMany_any (b r t : Int) (w : World) :
    Calls Try.prog 37 #[.agg #[.int .i64 b, .int .i64 r, .int .i64 t]] w fun e w' => e = .returned (.int .i64 (slotManyV b r t)) ∧ Below w.heap.size w w' := by
  cases h : hullB b r t with
  | false =>
    go_enter Try.func37, Try.ntmps37
    go_wp2_with (first
      | (go_at_call 36; refine (specHullValid_no _ _ _ _ h).mono ?_; rintro e w1 ⟨rfl, hb⟩))
    go_ret
    exact ⟨ret_int (by simp [slotManyV, h]), (by repeat' (first | with_reducible exact Below.refl _ _ | with_reducible assumption | with_reducible refine bel_step (by with_reducible assumption) ?_ ?_ | with_reducible refine Below.drew ?_ | with_reducible refine below_drewN ?_ _ | with_reducible refine Below.alloc ?_ ?_ _ | with_reducible refine Below.setCell ?_ ?_ _ | (simp; done) | (simp; omega) | omega | with_reducible refine below_le (by with_reducible assumption) ?_))⟩
  | true =>
    obtain ⟨⟨hb, hb'⟩, ⟨hr, hr'⟩, ht, ht'⟩ := hullB_iff.1 h
    obtain ⟨p1, p2⟩ := mul_small (a := b) (b := r) (A := 4) (B := 3) (by omega) hb' (by omega) hr'
    obtain ⟨p3, p4⟩ := mul_small (a := b * r) (b := t) (A := 12) (B := 3) (by omega) (by omega) (by omega) ht'
    have hfin : slotManyV b r t = b * r * t := by simp [slotManyV, h]
    have Hfin := Lib.hid hfin
    clear hfin
    go_enter Try.func37, Try.ntmps37
    go_wp2_with (first
      | (go_at_call 36; refine (specHullValid_yes _ _ _ _ h).mono ?_; rintro e w1 ⟨rfl, hb1⟩; obtain ⟨hc1, hf1⟩ := bcell hb1))
    go_ret
    exact ⟨ret_int (by rw [Hfin.out]), (by repeat' (first | with_reducible exact Below.refl _ _ | with_reducible assumption | with_reducible refine bel_step (by with_reducible assumption) ?_ ?_ | with_reducible refine Below.drew ?_ | with_reducible refine below_drewN ?_ _ | with_reducible refine Below.alloc ?_ ?_ _ | with_reducible refine Below.setCell ?_ ?_ _ | (simp; done) | (simp; omega) | omega | with_reducible refine below_le (by with_reducible assumption) ?_))⟩

set_option maxHeartbeats 400000 in
theorem tier_any (b r t slot : Int) (w : World) (hs : 0 ≤ slot) (ht : 1 ≤ t) :
    Calls Try.prog 47 #[.agg #[.int .i64 b, .int .i64 r, .int .i64 t], .int .i64 slot] w fun e w' => e = .returned (.int .i64 (slot % t)) ∧ Below w.heap.size w w' := by
  have hz : (t == 0) = false := beq_eq_false_iff_ne.2 (by omega)
  go_enter Try.func47, Try.ntmps47
  go_wp2
  go_ret
  exact ⟨rfl, (by repeat' (first | with_reducible exact Below.refl _ _ | with_reducible assumption | with_reducible refine bel_step (by with_reducible assumption) ?_ ?_ | with_reducible refine Below.drew ?_ | with_reducible refine below_drewN ?_ _ | with_reducible refine Below.alloc ?_ ?_ _ | with_reducible refine Below.setCell ?_ ?_ _ | (simp; done) | (simp; omega) | omega | with_reducible refine below_le (by with_reducible assumption) ?_))⟩



def placeOk (b r t slot : Int) : Bool := hullB b r t && inR slot 0 (b * r * t - 1)
def placeB (b r t slot : Int) : Int := if placeOk b r t slot then slot / t / r else -1
def placeR (b r t slot : Int) : Int := if placeOk b r t slot then slot / t % r else -1
def placeT (b r t slot : Int) : Int := if placeOk b r t slot then slot % t else -1
def belowV (b r t slot : Int) : Int := if placeOk b r t slot && (slot % t != 0) then slot - 1 else -1
theorem ret_int3 {k : IntKind} {a b c a' b' c' : Int} (h : a = a') (h' : b = b') (h'' : c = c') : Ending.returned (.tuple #[.int k a, .int k b, .int k c]) = .returned (.tuple #[.int k a', .int k b', .int k c']) := by rw [h, h', h'']


set_option maxHeartbeats 800000 in
theorem specPlaceOf_any (b r t slot : Int) (w : World) :
    Calls Try.prog 57 #[.agg #[.int .i64 b, .int .i64 r, .int .i64 t], .int .i64 slot] w fun e w' => e = .returned (.tuple #[.int .i64 (placeB b r t slot), .int .i64 (placeR b r t slot), .int .i64 (placeT b r t slot)]) ∧ Below w.heap.size w w' := by
  cases h : hullB b r t with
  | false =>
    go_enter Try.func57, Try.ntmps57
    go_wp2_with (first
      | (go_at_call 36; refine (specHullValid_no _ _ _ _ h).mono ?_; rintro e w1 ⟨rfl, hb⟩))
    go_ret3
    exact ⟨ret_int3 (by simp [placeB, placeOk, h]) (by simp [placeR, placeOk, h]) (by simp [placeT, placeOk, h]), (by repeat' (first | with_reducible exact Below.refl _ _ | with_reducible assumption | with_reducible refine bel_step (by with_reducible assumption) ?_ ?_ | with_reducible refine Below.drew ?_ | with_reducible refine below_drewN ?_ _ | with_reducible refine Below.alloc ?_ ?_ _ | with_reducible refine Below.setCell ?_ ?_ _ | (simp; done) | (simp; omega) | omega | with_reducible refine below_le (by with_reducible assumption) ?_))⟩
  | true =>
    obtain ⟨⟨hb, hb'⟩, ⟨hr, hr'⟩, ht, ht'⟩ := hullB_iff.1 h
    have hm : slotManyV b r t = b * r * t := by simp [slotManyV, h]
    obtain ⟨p1, p2⟩ := mul_small (a := b) (b := r) (A := 4) (B := 3) (by omega) hb' (by omega) hr'
    obtain ⟨p3, p4⟩ := mul_small (a := b * r) (b := t) (A := 12) (B := 3) (by omega) (by omega) (by omega) ht'
    cases g : inR slot 0 (b * r * t - 1) with
    | false =>
      go_enter Try.func57, Try.ntmps57
      go_wp2_with (first
        | (go_at_call 36; refine (specHullValid_yes _ _ _ _ h).mono ?_; rintro e w1 ⟨rfl, hb1⟩; obtain ⟨hc1, hf1⟩ := bcell hb1; have z1 := hb1.size; (try simp at z1); (have y0 : w.heap.size < w1.heap.size := by omega))
        | (go_at_call 37; refine (specSlotMany_any _ _ _ _).mono ?_; rw [hm]; rintro e w1 ⟨rfl, hb1⟩; obtain ⟨hc1, hf1⟩ := bcell hb1; have z1 := hb1.size; (try simp at z1); (have y0 : w.heap.size < w1.heap.size := by omega))
        | (go_at_call 50; refine (l1In_any _ _ _ _).mono ?_; rintro e w' ⟨rfl, rfl⟩))
      go_ret3
      exact ⟨ret_int3 (by simp [placeB, placeOk, h, g]) (by simp [placeR, placeOk, h, g]) (by simp [placeT, placeOk, h, g]), (by repeat' (first | with_reducible exact Below.refl _ _ | with_reducible assumption | with_reducible refine bel_step (by with_reducible assumption) ?_ ?_ | with_reducible refine Below.drew ?_ | with_reducible refine below_drewN ?_ _ | with_reducible refine Below.alloc ?_ ?_ _ | with_reducible refine Below.setCell ?_ ?_ _ | (simp; done) | (simp; omega) | omega | with_reducible refine below_le (by with_reducible assumption) ?_))⟩
    | true =>
      obtain ⟨g1, g2⟩ := inR_iff.1 g
      have f1 : placeB b r t slot = slot / t / r := by simp [placeB, placeOk, h, g]
      have f2 : placeR b r t slot = slot / t % r := by simp [placeR, placeOk, h, g]
      have f3 : placeT b r t slot = slot % t := by simp [placeT, placeOk, h, g]
      have F1 := Lib.hid f1
      have F2 := Lib.hid f2
      have F3 := Lib.hid f3
      clear f1 f2 f3
      have hz : (t == 0) = false := beq_eq_false_iff_ne.2 (by omega)
      have hz' : (r == 0) = false := beq_eq_false_iff_ne.2 (by omega)
      have q0 : 0 ≤ slot / t := Int.ediv_nonneg g1 (by omega)
      have q1 : slot / t ≤ slot := Int.ediv_le_self _ g1
      go_enter Try.func57, Try.ntmps57
      go_wp2_with (first
        | (go_at_call 36; refine (specHullValid_yes _ _ _ _ h).mono ?_; rintro e w1 ⟨rfl, hb1⟩; obtain ⟨hc1, hf1⟩ := bcell hb1; have z1 := hb1.size; (try simp at z1); (have y0 : w.heap.size < w1.heap.size := by omega))
        | (go_at_call 37; refine (specSlotMany_any _ _ _ _).mono ?_; rw [hm]; rintro e w1 ⟨rfl, hb1⟩; obtain ⟨hc1, hf1⟩ := bcell hb1; have z1 := hb1.size; (try simp at z1); (have y0 : w.heap.size < w1.heap.size := by omega))
        | (go_at_call 50; refine (l1In_any _ _ _ _).mono ?_; rintro e w' ⟨rfl, rfl⟩))
      go_quiet (fail)
      go_wp2
      go_ret3
      exact ⟨ret_int3 (by rw [F1.out]) (by rw [F2.out]) (by rw [F3.out]), (by repeat' (first | with_reducible exact Below.refl _ _ | with_reducible assumption | with_reducible refine bel_step (by with_reducible assumption) ?_ ?_ | with_reducible refine Below.drew ?_ | with_reducible refine below_drewN ?_ _ | with_reducible refine Below.alloc ?_ ?_ _ | with_reducible refine Below.setCell ?_ ?_ _ | (simp; done) | (simp; omega) | omega | with_reducible refine below_le (by with_reducible assumption) ?_))⟩

theorem placeT_bounds (b r t slot : Int) : -1 ≤ placeT b r t slot ∧ placeT b r t slot ≤ 3 := by
  unfold placeT
  split
  · rename_i h
    simp only [placeOk, Bool.and_eq_true] at h
    obtain ⟨_, _, ht, ht'⟩ := hullB_iff.1 h.1
    have := Int.emod_nonneg slot (show t ≠ 0 by omega)
    have := Int.emod_lt_of_pos slot (show 0 < t by omega)
    omega
  · omega

theorem below_eq (b r t slot : Int) : slotOfV b r t (placeB b r t slot) (placeR b r t slot) (placeT b r t slot - 1) = belowV b r t slot := by
  cases h : placeOk b r t slot with
  | false => simp [placeB, placeR, placeT, belowV, h, slotOfV, inR]
  | true =>
    have h' := h
    simp only [placeOk, Bool.and_eq_true] at h'
    obtain ⟨hh, hs⟩ := h'
    obtain ⟨⟨hb, hb'⟩, ⟨hr, hr'⟩, ht, ht'⟩ := hullB_iff.1 hh
    obtain ⟨s0, s1⟩ := inR_iff.1 hs
    have e0 : slot / t * t + slot % t = slot := by have := Int.mul_ediv_add_emod slot t; rw [Int.mul_comm]; exact this
    have e1 : slot / t / r * r + slot / t % r = slot / t := by have := Int.mul_ediv_add_emod (slot / t) r; rw [Int.mul_comm]; exact this
    have m0 := Int.emod_nonneg slot (show t ≠ 0 by omega)
    have m1 := Int.emod_lt_of_pos slot (show 0 < t by omega)
    have n0 := Int.emod_nonneg (slot / t) (show r ≠ 0 by omega)
    have n1 := Int.emod_lt_of_pos (slot / t) (show 0 < r by omega)
    have d0 : 0 ≤ slot / t := Int.ediv_nonneg s0 (by omega)
    have d1 : 0 ≤ slot / t / r := Int.ediv_nonneg d0 (by omega)
    have d2 : slot / t / r < b := by
      apply Int.ediv_lt_of_lt_mul (by omega)
      apply Int.ediv_lt_of_lt_mul (by omega)
      omega
    simp only [placeB, placeR, placeT, belowV, h, if_true, Bool.true_and]
    by_cases hz : slot % t = 0
    · simp [hz, slotOfV, inR]
    · have g1 : inR (slot / t / r) 0 (b - 1) = true := inR_yes (by omega)
      have g2 : inR (slot / t % r) 0 (r - 1) = true := inR_yes (by omega)
      have g3 : inR (slot % t - 1) 0 (t - 1) = true := inR_yes (by omega)
      simp only [slotOfV, hh, g1, g2, g3, e1, Bool.and_self, if_true]
      rw [if_pos (by simpa using hz)]
      omega

set_option maxHeartbeats 400000 in
theorem specSlotBelow_any (b r t slot : Int) (w : World) :
    Calls Try.prog 40 #[.agg #[.int .i64 b, .int .i64 r, .int .i64 t], .int .i64 slot] w fun e w' => e = .returned (.int .i64 (belowV b r t slot)) ∧ Below w.heap.size w w' := by
  have H := Lib.hid (below_eq b r t slot)
  obtain ⟨q1, q2⟩ := placeT_bounds b r t slot
  go_enter Try.func40, Try.ntmps40
  go_wp2_with (first
    | (go_at_call 57; refine (specPlaceOf_any _ _ _ _ _).mono ?_; rintro e w1 ⟨rfl, hb1⟩; obtain ⟨hc1, hf1⟩ := bcell hb1; have z1 := hb1.size; (try simp at z1); (have y0 : w.heap.size < w1.heap.size := by omega))
    | (go_at_call 58; refine (specSlotOf_any _ _ _ _ _ _ _).mono ?_; rintro e w1 ⟨rfl, hb1⟩; obtain ⟨hc1, hf1⟩ := bcell hb1; have z1 := hb1.size; (try simp at z1); (have y0 : w.heap.size < w1.heap.size := by omega)))
  go_ret
  exact ⟨ret_int H.out, (by repeat' (first | with_reducible exact Below.refl _ _ | with_reducible assumption | with_reducible refine bel_step (by with_reducible assumption) ?_ ?_ | with_reducible refine Below.drew ?_ | with_reducible refine below_drewN ?_ _ | with_reducible refine Below.alloc ?_ ?_ _ | with_reducible refine Below.setCell ?_ ?_ _ | (simp; done) | (simp; omega) | omega | with_reducible refine below_le (by with_reducible assumption) ?_))⟩


end Go.Proofs.Ytfdnikmmfnhmbaa
