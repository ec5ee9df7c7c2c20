/- The contracts of both StackAbove, and the walks of the laws FnExactStackValid and FnExactStackAbove. Conditions: that the slices read as lists. -/
import Derived.Test.YtfegbfjeokgjjaaOwn2
namespace Go.Proofs.Ytfegbfjeokgjjaa
open Go.RowKit
set_option linter.unusedVariables false

def aboveV (xs : List Int) (high id : Int) : Int := if stackB xs high && decide (0 ≤ ixOf xs id) then (xs.length : Int) - 1 - ixOf xs id else -1

set_option maxHeartbeats 400000 in
theorem implStackAbove_any (A : Option Addr) (n c : Nat) (xs : List Int) (high id : Int) (w : World) (h : Ints w A n c xs) :
    Calls Try.prog 22 #[.slice A n c, .int .i64 high, .int .i64 id] w fun e w' => e = .returned (.int .i64 (aboveV xs high id)) ∧ w = w' := by
  have hlen := h.len
  have Hl := Lib.hid h.length
  have H := Lib.hid h
  clear h
  have i0 := ixOf_ge xs id
  have i1 := ixOf_lt xs id
  rw [Hl.out] at i1
  cases hs : stackB xs high with
  | false =>
    have hfin : aboveV xs high id = -1 := by simp [aboveV, hs]
    have Hfin := Lib.hid hfin
    clear hfin
    go_enter Try.func22, Try.ntmps22
    go_wp2_with (first
      | (go_at_call 36; refine (index_any _ _ _ _ _ _ H.out).mono ?_; rintro e w' ⟨rfl, rfl⟩)
      | (go_at_call 13; refine (implStackValid_any _ _ _ _ _ _ H.out).mono ?_; rintro e w' ⟨rfl, rfl⟩))
    go_ret
    exact ⟨ret_int (by rw [Hfin.out]), rfl⟩
  | true =>
    by_cases hi : ixOf xs id < 0
    · have hfin : aboveV xs high id = -1 := by
        have : ¬ 0 ≤ ixOf xs id := by omega
        simp [aboveV, this]
      have Hfin := Lib.hid hfin
      clear hfin
      go_enter Try.func22, Try.ntmps22
      go_wp2_with (first
        | (go_at_call 36; refine (index_any _ _ _ _ _ _ H.out).mono ?_; rintro e w' ⟨rfl, rfl⟩)
        | (go_at_call 13; refine (implStackValid_any _ _ _ _ _ _ H.out).mono ?_; rintro e w' ⟨rfl, rfl⟩))
      go_ret
      exact ⟨ret_int (by rw [Hfin.out]), rfl⟩
    · have hi' : 0 ≤ ixOf xs id := by omega
      have hfin : aboveV xs high id = (n : Int) - 1 - ixOf xs id := by simp [aboveV, hs, hi', Hl.out]
      have Hfin := Lib.hid hfin
      clear hfin hi
      go_enter Try.func22, Try.ntmps22
      go_wp2_with (first
        | (go_at_call 36; refine (index_any _ _ _ _ _ _ H.out).mono ?_; rintro e w' ⟨rfl, rfl⟩)
        | (go_at_call 13; refine (implStackValid_any _ _ _ _ _ _ H.out).mono ?_; rintro e w' ⟨rfl, rfl⟩))
      go_ret
      exact ⟨ret_int (by rw [Hfin.out]), rfl⟩

set_option maxHeartbeats 800000 in
theorem specStackAbove_any (A : Option Addr) (n c : Nat) (xs : List Int) (high id : Int) (w : World) (h : Ints w A n c xs) :
    Calls Try.prog 21 #[.slice A n c, .int .i64 high, .int .i64 id] w fun e w' => e = .returned (.int .i64 (aboveV xs high id)) ∧ Below w.heap.size w w' := by
  have hlen := h.len
  have Hl := Lib.hid h.length
  have H := Lib.hid h
  clear h
  go_enter Try.func21, Try.ntmps21
  go_wp2_with (fail)
  go_loopw [7] (fun i wr => ∃ k : Nat, k ≤ n ∧ i = .int .i64 k ∧ NoX xs id k ∧ Below w.heap.size w wr) (fun i _ => n - (intOf i).toNat)
  case atStart => exact ⟨0, by omega, rfl, NoX.zero _ _, Below.refl _ _⟩
  case round =>
    obtain ⟨k, hk, rfl, hno, hbw⟩ := hrel
    have Hno := Lib.hid hno
    clear hno
    by_cases hlt : k < n
    · have hlt' : (k : Int) < n := by omega
      obtain ⟨b, off, hA, hb, hc0⟩ := H.out.at_ hlt
      subst hA
      have hI := H.out.below hbw
      have HI := Lib.hid hI
      clear hI
      cases hs : stackB xs high with
      | false =>
        have hfin : aboveV xs high id = -1 := by simp [aboveV, hs]
        have Hfin := Lib.hid hfin
        clear hfin
        go_wp2_with (go_at_call 11; refine (specStackValid_any _ _ _ _ _ _ HI.out).mono ?_; rintro e w1 ⟨rfl, hb1⟩)
        go_ret
        exact ⟨ret_int (by rw [Hfin.out]), (by repeat' (first | with_reducible exact Below.refl _ _ | with_reducible assumption | with_reducible refine bel_step (by with_reducible assumption) ?_ ?_ | with_reducible refine Below.drew ?_ | with_reducible refine below_drewN ?_ _ | with_reducible refine Below.alloc ?_ ?_ _ | with_reducible refine Below.setCell ?_ ?_ _ | (simp; done) | (simp; omega) | omega | with_reducible refine below_le (by with_reducible assumption) ?_))⟩
      | true =>
        obtain ⟨v, hv⟩ : ∃ v, xs.getD k 0 = v := ⟨_, rfl⟩
        rw [hv] at hc0
        have Hv := Lib.hid hv
        clear hv
        cases hx : (v == id) with
        | true =>
          have hix := ixOf_found xs id k (by rw [Hl.out]; exact hlt) (by rw [Hv.out]; exact beq_iff_eq.1 hx) Hno.out
          have hfin : aboveV xs high id = (n : Int) - 1 - k := by simp [aboveV, hs, hix, Hl.out]
          have Hfin := Lib.hid hfin
          clear hfin hix
          go_wp2_with (go_at_call 11; refine (specStackValid_any _ _ _ _ _ _ HI.out).mono ?_; rintro e w1 ⟨rfl, hb1⟩; have hc1 := (hb1.cell (p := ⟨b, off + k, none⟩) (Nat.lt_of_lt_of_le hb hbw.size)).trans ((hbw.cell (p := ⟨b, off + k, none⟩) hb).trans hc0))
          go_ret
          exact ⟨ret_int (by rw [Hfin.out]), (by repeat' (first | with_reducible exact Below.refl _ _ | with_reducible assumption | with_reducible refine bel_step (by with_reducible assumption) ?_ ?_ | with_reducible refine Below.drew ?_ | with_reducible refine below_drewN ?_ _ | with_reducible refine Below.alloc ?_ ?_ _ | with_reducible refine Below.setCell ?_ ?_ _ | (simp; done) | (simp; omega) | omega | with_reducible refine below_le (by with_reducible assumption) ?_))⟩
        | false =>
          have hn1 := Hno.out.succ (by rw [Hv.out]; exact beq_eq_false_iff_ne.1 hx)
          have Hn1 := Lib.hid hn1
          clear hn1
          go_wp2_with (go_at_call 11; refine (specStackValid_any _ _ _ _ _ _ HI.out).mono ?_; rintro e w1 ⟨rfl, hb1⟩; have hc1 := (hb1.cell (p := ⟨b, off + k, none⟩) (Nat.lt_of_lt_of_le hb hbw.size)).trans ((hbw.cell (p := ⟨b, off + k, none⟩) hb).trans hc0))
          exact ⟨⟨k + 1, by omega, by go_num, Hn1.out, (by repeat' (first | with_reducible exact Below.refl _ _ | with_reducible assumption | with_reducible refine bel_step (by with_reducible assumption) ?_ ?_ | with_reducible refine Below.drew ?_ | with_reducible refine below_drewN ?_ _ | with_reducible refine Below.alloc ?_ ?_ _ | with_reducible refine Below.setCell ?_ ?_ _ | (simp; done) | (simp; omega) | omega | with_reducible refine below_le (by with_reducible assumption) ?_))⟩, by simp [intOf]; omega⟩
    · obtain rfl : k = n := by omega
      have hix := ixOf_none xs id (by rw [Hl.out]; exact Hno.out)
      have hfin : aboveV xs high id = -1 := by simp [aboveV, hix]
      have Hfin := Lib.hid hfin
      clear hfin hix
      go_wp2_with (fail)
      go_ret
      exact ⟨ret_int (by rw [Hfin.out]), (by repeat' (first | with_reducible exact Below.refl _ _ | with_reducible assumption | with_reducible refine bel_step (by with_reducible assumption) ?_ ?_ | with_reducible refine Below.drew ?_ | with_reducible refine below_drewN ?_ _ | with_reducible refine Below.alloc ?_ ?_ _ | with_reducible refine Below.setCell ?_ ?_ _ | (simp; done) | (simp; omega) | omega | with_reducible refine below_le (by with_reducible assumption) ?_))⟩
end Go.Proofs.Ytfegbfjeokgjjaa
