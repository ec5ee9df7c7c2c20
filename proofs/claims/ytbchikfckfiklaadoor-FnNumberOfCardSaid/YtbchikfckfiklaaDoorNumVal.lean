/- The contracts of the reference's CheckRest and of both NumberValid. Conditions: those in each statement. -/
import Derived.Test.YtbchikfckfiklaaDoorNumSpec
namespace Go.Proofs.YtbchikfckfiklaaDoor
open Go.RowKit
set_option linter.unusedVariables false

theorem cr_step' (s : ByteArray) (k : Nat) (hk : k < 10) (hs : k < s.size) : wrap64 (crSum s k + wrap64 (2 ^ k * cv (s.extract k (k + 1)))) = crSum s (k + 1) := by
  rw [Int.mul_comm]; exact cr_step s k hk hs
theorem pow_step (k : Nat) (hk : k < 10) : wrap64 (2 * 2 ^ k) = (2 : Int) ^ (k + 1) := by
  obtain ⟨p0, p1⟩ := two_pow_le k (by omega)
  rw [Int.pow_succ, IntWalk.wrap64_in _ ⟨by omega, by omega⟩]; omega

set_option maxHeartbeats 800000 in
theorem specCheckRest_any (s : ByteArray) (w : World) :
    Calls Tryd.prog 17 #[.string s] w fun e w' => e = .returned (.int .i64 (crV s)) ∧ w = w' := by
  cases hok : crOk s with
  | false =>
    have hfin : crV s = -1 := by simp [crV, hok]
    have Hfin := Lib.hid hfin
    clear hfin
    go_enter Tryd.func17, Tryd.ntmps17
    go_wp2_with (go_at_call 29; refine (l1Form_any _ _).mono ?_; rintro e w' ⟨rfl, rfl⟩)
    go_ret
    exact ⟨ret_int (by rw [Hfin.out]), rfl⟩
  | true =>
    have hs : s.size = 10 := by
      simp only [crOk, Bool.and_eq_true, decide_eq_true_eq] at hok
      exact hok.1.1.1
    have hfin : crV s = crSum s 10 % 11 := by simp [crV, hok]
    have q0 := crSum_nonneg s hok 10 (by omega)
    have Hfin := Lib.hid hfin
    clear hfin
    go_enter Tryd.func17, Tryd.ntmps17
    go_wp2_with (go_at_call 29; refine (l1Form_any _ _).mono ?_; rintro e w' ⟨rfl, rfl⟩)
    go_loop [3, 4, 5] (fun sum p c => ∃ k : Nat, k ≤ 10 ∧ c = .int .i64 k ∧ sum = .int .i64 (crSum s k) ∧ p = .int .i64 (2 ^ k)) (fun _ _ c => 10 - (intOf c).toNat)
    case atStart => exact ⟨0, by omega, rfl, rfl, rfl⟩
    case round =>
      obtain ⟨k, hk10, rfl, rfl, rfl⟩ := hrel
      by_cases hlt : k < 10
      · have hlt' : (k : Int) < 10 := by omega
        have hks : k < s.size := by omega
        have Hst := Lib.hid (cr_step' s k hlt hks)
        have Hp := Lib.hid (pow_step k hlt)
        go_wp2_with (go_at_call 30; refine (specCharValue_any _ _).mono ?_; rintro e w' ⟨rfl, rfl⟩)

        all_goals exact ⟨⟨k + 1, by omega, by go_num, by rw [Hst.out], by rw [Hp.out]⟩, by simp [intOf]; omega⟩
      · obtain rfl : k = 10 := by omega
        go_wp2_with (fail)
        go_ret
        exact ⟨ret_int (by rw [Hfin.out]), rfl⟩

set_option maxHeartbeats 400000 in
theorem checkDigit_any (r : Int) (w : World) (h : 0 ≤ r) :
    Calls Tryd.prog 20 #[.int .i64 r] w fun e w' => e = .returned (.int .u8 (48 + r % 10)) ∧ w = w' := by
  go_enter Tryd.func20, Tryd.ntmps20
  go_wp2
  go_ret
  exact ⟨rfl, rfl⟩

def nvB (s : ByteArray) : Bool := decide (s.size = 11) && decide (0 ≤ crV (s.extract 0 10)) && (bt s 10 == 48 + crV (s.extract 0 10) % 10)

set_option maxHeartbeats 400000 in
theorem implNumberValid_any (s : ByteArray) (w : World) :
    Calls Tryd.prog 13 #[.string s] w fun e w' => e = .returned (.bool (nvB s)) ∧ Below w.heap.size w w' := by
  by_cases hs : s.size = 11
  · have e := bt_eq s 10 (by omega)
    by_cases h0 : 0 ≤ crV (s.extract 0 10)
    · have hfin : nvB s = (((s[10]'(by omega)).toNat : Int) == 48 + crV (s.extract 0 10) % 10) := by simp [nvB, hs, h0, e]
      have Hfin := Lib.hid hfin
      clear hfin e
      go_enter Tryd.func13, Tryd.ntmps13
      go_wp2_with (first
        | (go_at_call 21; refine (implCheckRest_any _ _).mono ?_; rintro e w' ⟨rfl, rfl⟩))
      go_quiet ((go_at_call 20; exact Calls.quiet_of_same (quiet_l (checkDigit_any _ _ h0))))
      go_wp2
      go_ret
      exact ⟨ret_bool (by rw [Hfin.out]), (by repeat' (first | with_reducible exact Below.refl _ _ | with_reducible assumption | with_reducible refine bel_step (by with_reducible assumption) ?_ ?_ | with_reducible refine Below.drew ?_ | with_reducible refine below_drewN ?_ _ | with_reducible refine Below.alloc ?_ ?_ _ | with_reducible refine Below.setCell ?_ ?_ _ | (simp; done) | (simp; omega) | omega | with_reducible refine below_le (by with_reducible assumption) ?_))⟩
    · have hfin : nvB s = false := by simp [nvB, h0]
      have h1 : decide (0 ≤ crV (s.extract 0 10)) = false := by simpa using h0
      have Hfin := Lib.hid hfin
      clear hfin e h0
      go_enter Tryd.func13, Tryd.ntmps13
      go_wp2_with (first
        | (go_at_call 21; refine (implCheckRest_any _ _).mono ?_; rintro e w' ⟨rfl, rfl⟩))
      go_quiet (fail)
      go_wp2
      go_ret
      exact ⟨ret_bool (by rw [Hfin.out]), (by repeat' (first | with_reducible exact Below.refl _ _ | with_reducible assumption | with_reducible refine bel_step (by with_reducible assumption) ?_ ?_ | with_reducible refine Below.drew ?_ | with_reducible refine below_drewN ?_ _ | with_reducible refine Below.alloc ?_ ?_ _ | with_reducible refine Below.setCell ?_ ?_ _ | (simp; done) | (simp; omega) | omega | with_reducible refine below_le (by with_reducible assumption) ?_))⟩
  · have hfin : nvB s = false := by simp [nvB, hs]
    have Hfin := Lib.hid hfin
    clear hfin
    go_enter Tryd.func13, Tryd.ntmps13
    go_wp2_with (fail)
    go_ret
    exact ⟨ret_bool (by rw [Hfin.out]), (by repeat' (first | with_reducible exact Below.refl _ _ | with_reducible assumption | with_reducible refine bel_step (by with_reducible assumption) ?_ ?_ | with_reducible refine Below.drew ?_ | with_reducible refine below_drewN ?_ _ | with_reducible refine Below.alloc ?_ ?_ _ | with_reducible refine Below.setCell ?_ ?_ _ | (simp; done) | (simp; omega) | omega | with_reducible refine below_le (by with_reducible assumption) ?_))⟩

theorem cvb_digit (c d : Int) (h0 : 0 ≤ d) (h1 : d ≤ 9) : (cvb c == d) = (c == 48 + d) := by
  rw [Bool.eq_iff_iff, beq_iff_eq, beq_iff_eq]
  unfold cvb
  split
  · omega
  · rename_i h
    have hh : ¬ (48 ≤ c ∧ c ≤ 57) := fun x => h (inR_yes x)
    split
    · rename_i h'
      have := inR_iff.1 h'
      omega
    · omega

set_option maxHeartbeats 400000 in
theorem specNumberValid_any (s : ByteArray) (w : World) :
    Calls Tryd.prog 22 #[.string s] w fun e w' => e = .returned (.bool (nvB s)) ∧ Below w.heap.size w w' := by
  by_cases hs : s.size = 11
  · have e := bt_eq s 10 (by omega)
    obtain ⟨r0, r1, r2, r3⟩ := crV_range (s.extract 0 10)
    by_cases h0 : 0 ≤ crV (s.extract 0 10)
    · have hcv : cv (s.extract 10 11) = cvb (bt s 10) := cv_one s 10 (by omega)
      have hfin : nvB s = (cv (s.extract 10 11) == crV (s.extract 0 10) % 10) := by
        rw [hcv, cvb_digit _ _ (by omega) (by omega)]
        simp [nvB, hs, h0]
      have Hfin := Lib.hid hfin
      have hm : (crV (s.extract 0 10)).tmod 10 = crV (s.extract 0 10) % 10 := Int.tmod_eq_emod_of_nonneg h0
      have hw : IntKind.i64.wrap (crV (s.extract 0 10) % 10) = crV (s.extract 0 10) % 10 := IntWalk.i64_in _ (by omega)
      have Hm := Lib.hid hm
      have Hw := Lib.hid hw
      clear hfin e hcv r0 r1 r2 r3 hm hw
      go_enter Tryd.func22, Tryd.ntmps22
      go_wp2_with (first
        | (go_at_call 17; refine (specCheckRest_any _ _).mono ?_; rintro e w' ⟨rfl, rfl⟩))
      have hm := Hm.out
      have hw := Hw.out
      go_quiet ((first
        | (go_at_call 17; exact Calls.quiet_of_same (quiet_l (specCheckRest_any _ _)))
        | (go_at_call 30; exact Calls.quiet_of_same (quiet_l (specCharValue_any _ _)))))
      clear hm hw
      go_wp2
      go_ret
      exact ⟨ret_bool (by rw [Hfin.out]), (by repeat' (first | with_reducible exact Below.refl _ _ | with_reducible assumption | with_reducible refine bel_step (by with_reducible assumption) ?_ ?_ | with_reducible refine Below.drew ?_ | with_reducible refine below_drewN ?_ _ | with_reducible refine Below.alloc ?_ ?_ _ | with_reducible refine Below.setCell ?_ ?_ _ | (simp; done) | (simp; omega) | omega | with_reducible refine below_le (by with_reducible assumption) ?_))⟩
    · have hfin : nvB s = false := by simp [nvB, h0]
      have h1 : crV (s.extract 0 10) < 0 := by omega
      have Hfin := Lib.hid hfin
      clear hfin e r0 r1 r2 r3 h0
      go_enter Tryd.func22, Tryd.ntmps22
      go_wp2_with (first
        | (go_at_call 17; refine (specCheckRest_any _ _).mono ?_; rintro e w' ⟨rfl, rfl⟩))
      go_ret
      exact ⟨ret_bool (by rw [Hfin.out]), (by repeat' (first | with_reducible exact Below.refl _ _ | with_reducible assumption | with_reducible refine bel_step (by with_reducible assumption) ?_ ?_ | with_reducible refine Below.drew ?_ | with_reducible refine below_drewN ?_ _ | with_reducible refine Below.alloc ?_ ?_ _ | with_reducible refine Below.setCell ?_ ?_ _ | (simp; done) | (simp; omega) | omega | with_reducible refine below_le (by with_reducible assumption) ?_))⟩
  · have hfin : nvB s = false := by simp [nvB, hs]
    have Hfin := Lib.hid hfin
    clear hfin
    go_enter Tryd.func22, Tryd.ntmps22
    go_wp2_with (fail)
    go_ret
    exact ⟨ret_bool (by rw [Hfin.out]), (by repeat' (first | with_reducible exact Below.refl _ _ | with_reducible assumption | with_reducible refine bel_step (by with_reducible assumption) ?_ ?_ | with_reducible refine Below.drew ?_ | with_reducible refine below_drewN ?_ _ | with_reducible refine Below.alloc ?_ ?_ _ | with_reducible refine Below.setCell ?_ ?_ _ | (simp; done) | (simp; omega) | omega | with_reducible refine below_le (by with_reducible assumption) ?_))⟩
end Go.Proofs.YtbchikfckfiklaaDoor
