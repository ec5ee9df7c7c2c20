/- spec.NumberOf. Conditions: that the owner is no longer than 1048576 bytes. -/
import Derived.Test.YtbchikfckfiklaaDoorNoSpec
import Derived.Test.YtbchikfckfiklaaDoorWithin
namespace Go.Proofs.YtbchikfckfiklaaDoor
open Go.RowKit
set_option linter.unusedVariables false

/-- j zeros ahead of the numeral -/
def zpad (j n : Nat) : ByteArray := ⟨(List.replicate j (48 : UInt8) ++ Lib.decDigits n).toArray⟩
theorem zpad_zero (n : Nat) : zpad 0 n = numS n := by simp [zpad, numS]
theorem zpad_succ (j n : Nat) : (⟨#[48]⟩ : ByteArray) ++ zpad j n = zpad (j + 1) n := by
  rw [zpad, ByteArray.mk_append_mk, zpad]
  simp [List.replicate_succ]
theorem zpad_size (j n : Nat) : (zpad j n).size = j + Lib.nDigits n := by
  simp [zpad, ByteArray.size, Lib.decDigits_length]
theorem nDigits_six {n : Nat} (h : n ≤ 999999) : Lib.nDigits n ≤ 6 := by
  rcases Nat.lt_or_ge 6 (Lib.nDigits n) with h1 | h1
  · exfalso
    have key : ∀ u : Nat, u ≠ 0 → 10 ^ (Lib.nDigits u - 1) ≤ u := by
      intro u
      induction u using Nat.strongRecOn with
      | _ u ih =>
        intro hu
        by_cases h10 : u < 10
        · rw [Lib.nDigits_small h10]; simp; omega
        · have := ih (u / 10) (by omega) (by omega)
          have hp := Lib.nDigits_pos (u / 10)
          rw [Lib.nDigits_big h10]
          rw [show Lib.nDigits (u / 10) + 1 - 1 = (Lib.nDigits (u / 10) - 1) + 1 by omega, Nat.pow_succ]
          omega
    have h0 : n ≠ 0 := by
      intro e
      rw [e, Lib.nDigits_small (by omega)] at h1
      omega
    have h2 := key n h0
    have h3 : 10 ^ 6 ≤ 10 ^ (Lib.nDigits n - 1) := Nat.pow_le_pow_right (by omega) (by omega)
    omega
  · exact h1
/-- the six digits of a serial -/
def dig6 (n : Nat) : ByteArray := zpad (6 - Lib.nDigits n) n
theorem dig6_size {n : Nat} (h : n ≤ 999999) : (dig6 n).size = 6 := by rw [dig6, zpad_size]; have := nDigits_six h; omega
/-- the letter of a kind -/
def kindS (k : Nat) : ByteArray := (⟨#[85, 74, 90]⟩ : ByteArray).extract k (k + 1)
theorem kindS_size : ∀ k, k < 3 → (kindS k).size = 1 := by decide
def tenS (owner : ByteArray) (k n : Nat) : ByteArray := owner ++ kindS k ++ dig6 n
theorem tenS_size (owner : ByteArray) {k n : Nat} (hk : k < 3) (hn : n ≤ 999999) : (tenS owner k n).size = owner.size + 7 := by
  rw [tenS, ByteArray.size_append, ByteArray.size_append, kindS_size k hk, dig6_size hn]
def strLen : Value → Nat
  | .string s => s.size
  | _ => 0
/-- the number, or nothing -/
def noV (owner : ByteArray) (kind serial : Int) : ByteArray :=
  if inR kind 0 2 && inR serial 0 999999 && crOk (tenS owner kind.toNat serial.toNat) then tenS owner kind.toNat serial.toNat ++ numS (crV (tenS owner kind.toNat serial.toNat) % 10).toNat else ByteArray.empty

set_option maxHeartbeats 1600000 in
theorem specNumberOf_any (owner : ByteArray) (kind serial : Int) (w : World) (ho : owner.size ≤ 1048576) :
    Calls Tryd.prog 7 #[.string owner, .int .i64 kind, .int .i64 serial] w (NumPost w (noV owner kind serial)) := by
  cases hk : inR kind 0 2 with
  | false =>
    have hfin : noV owner kind serial = ByteArray.empty := by simp [noV, hk]
    rw [hfin]
    go_enter Tryd.func7, Tryd.ntmps7
    go_wp2_with (go_at_call 15; refine (l1In_any _ _ _ _).mono ?_; rintro e w' ⟨rfl, rfl⟩)
    go_ret
    exact ⟨rfl, (by repeat' (first | with_reducible exact Below.refl _ _ | with_reducible assumption | with_reducible refine bel_step (by with_reducible assumption) ?_ ?_ | with_reducible refine Below.drew ?_ | with_reducible refine below_drewN ?_ _ | with_reducible refine Below.alloc ?_ ?_ _ | with_reducible refine Below.setCell ?_ ?_ _ | (simp; done) | (simp; omega) | omega | with_reducible refine below_le (by with_reducible assumption) ?_))⟩
  | true =>
    cases hs : inR serial 0 999999 with
    | false =>
      have hfin : noV owner kind serial = ByteArray.empty := by simp [noV, hs]
      rw [hfin]
      go_enter Tryd.func7, Tryd.ntmps7
      go_wp2_with (go_at_call 15; refine (l1In_any _ _ _ _).mono ?_; rintro e w' ⟨rfl, rfl⟩)
      go_ret
      exact ⟨rfl, (by repeat' (first | with_reducible exact Below.refl _ _ | with_reducible assumption | with_reducible refine bel_step (by with_reducible assumption) ?_ ?_ | with_reducible refine Below.drew ?_ | with_reducible refine below_drewN ?_ _ | with_reducible refine Below.alloc ?_ ?_ _ | with_reducible refine Below.setCell ?_ ?_ _ | (simp; done) | (simp; omega) | omega | with_reducible refine below_le (by with_reducible assumption) ?_))⟩
    | true =>
      obtain ⟨k0, k2⟩ := inR_iff.1 hk
      obtain ⟨s0, s2⟩ := inR_iff.1 hs
      obtain ⟨k, rfl⟩ := Int.eq_ofNat_of_zero_le k0
      obtain ⟨n, rfl⟩ := Int.eq_ofNat_of_zero_le s0
      have hfin : noV owner (k : Int) (n : Int) = if crOk (tenS owner k n) then tenS owner k n ++ numS (crV (tenS owner k n) % 10).toNat else ByteArray.empty := by simp [noV, hk, hs]
      have Hfin := Lib.hid hfin
      have h6 := nDigits_six (show n ≤ 999999 by omega)
      have hnp := Lib.nDigits_pos n
      clear hfin
      go_enter Tryd.func7, Tryd.ntmps7
      go_wp2_with (first
        | (go_at_call 15; refine (l1In_any _ _ _ _).mono ?_; rintro e w' ⟨rfl, rfl⟩)
        | (go_at_call 16; refine (l1Number_any n (by omega) _).mono ?_; rintro e w1 ⟨rfl, hb1⟩))
      go_loop [7] (fun d => ∃ j : Nat, d = .string (zpad j n) ∧ j + Lib.nDigits n ≤ 6) (fun d => 6 - strLen d)
      case atStart => exact ⟨0, by rw [zpad_zero], by omega⟩
      case round =>
        obtain ⟨j, rfl, hj⟩ := hrel
        have hz := zpad_size j n
        by_cases hlt : j + Lib.nDigits n < 6
        · have hadd := run_string_add_sum (P := Tryd.prog) w1 ⟨#[48]⟩ (zpad j n) (by rw [hz]; simp [ByteArray.size]; omega)
          rw [zpad_succ] at hadd
          have hlt' : ((zpad j n).size : Int) < 6 := by omega
          have hz2 := zpad_size (j + 1) n
          go_wp2_with (fail)
          exact ⟨⟨j + 1, rfl, by omega⟩, by simp [strLen, hz, hz2]; omega⟩
        · have e6 : dig6 n = zpad j n := by rw [dig6, show 6 - Lib.nDigits n = j by omega]
          have hlt' : (6 : Int) ≤ ((zpad j n).size : Int) := by omega
          have hk3 : (k : Int) + 1 ≤ 3 := by omega
          have hk1 : (k : Int) ≤ (k : Int) + 1 := by omega
          have hk4 : (0 : Int) ≤ (k : Int) + 1 := by omega
          have hw1 : IntKind.i64.wrap ((k : Int) + 1) = (k : Int) + 1 := IntWalk.i64_in _ (by omega)
          have hks := kindS_size k (by omega)
          have hts := tenS_size owner (k := k) (n := n) (by omega) (by omega)
          have ha1 := run_string_add_sum (P := Tryd.prog) w1 owner (kindS k) (by rw [hks]; omega)
          have ha2 := run_string_add_sum (P := Tryd.prog) w1 (owner ++ kindS k) (dig6 n) (by rw [ByteArray.size_append, hks, dig6_size (by omega)]; omega)
          obtain ⟨T, hT⟩ : ∃ T, tenS owner k n = T := ⟨_, rfl⟩
          have ha3 : (Op.stringOp .add (owner ++ kindS k) (zpad j n)).run Tryd.prog w1 = .ok (.string T) w1 := by rw [← e6, ha2, ← hT]; rfl
          have hfin := Hfin.out
          rw [hT] at hfin hts
          have Hfin2 := Lib.hid hfin
          unfold kindS at ha1 ha3
          clear ha2 hfin Hfin hT e6 hks
          cases hok : crOk T with
          | false =>
            have hcr : crV T = -1 := by simp [crV, hok]
            go_wp2_with (first
              | (go_at_call 17; refine (specCheckRest_any _ _).mono ?_; rintro e w' ⟨rfl, rfl⟩; rw [hcr]))
            go_ret
            exact ⟨by rw [Hfin2.out, hok]; rfl, hb1⟩
          | true =>
            obtain ⟨r0, r1, _, r3⟩ := crV_range T
            obtain ⟨q, hq⟩ := Int.eq_ofNat_of_zero_le (r3.2 hok)
            rw [hq] at r1
            have hl1 : ∀ W, Calls Tryd.prog 16 #[.int .i64 ((q : Int) % 10)] W (NumPost W (numS (q % 10))) := fun W => by
              have := l1Number_any (q % 10) (by omega) W
              rwa [show ((q % 10 : Nat) : Int) = (q : Int) % 10 by omega] at this
            have hd1 : (numS (q % 10)).size = 1 := by rw [numS_small (by omega)]; rfl
            have ha4 : ∀ W, (Op.stringOp .add T (numS (q % 10))).run Tryd.prog W = .ok (.string (T ++ numS (q % 10))) W := fun W => run_string_add_sum W T _ (by rw [hts, hd1]; omega)
            have hm : (q : Int).tmod 10 = (q : Int) % 10 := Int.tmod_eq_emod_of_nonneg (by omega)
            have hwm : IntKind.i64.wrap ((q : Int) % 10) = (q : Int) % 10 := IntWalk.i64_in _ (by omega)
            have hq10 : ((q : Int) % 10).toNat = q % 10 := by omega
            have Hl1 := Lib.hid hl1
            clear hl1 r0 r3
            go_wp2_with (first
              | (go_at_call 17; refine (specCheckRest_any _ _).mono ?_; rintro e w' ⟨rfl, rfl⟩; rw [hq])
              | (go_at_call 16; refine (Hl1.out _).mono ?_; rintro e w4 ⟨rfl, hb4⟩))
            go_ret
            exact ⟨by rw [Hfin2.out, hok, if_pos rfl, hq, hq10]; rfl, hb1.trans (hb4.mono hb1.size)⟩
end Go.Proofs.YtbchikfckfiklaaDoor
