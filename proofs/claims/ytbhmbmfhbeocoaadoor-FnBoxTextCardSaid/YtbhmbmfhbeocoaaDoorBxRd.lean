/- spec.l1Read, spec.ReadBox. (Printed by wip/genspecread.py.) Conditions: the texts are no longer than 1048577 bytes. -/
import Derived.Test.YtbhmbmfhbeocoaaDoorBxCut
import Derived.Test.YtbhmbmfhbeocoaaDoorBxRead2
namespace Go.Proofs.YtbhmbmfhbeocoaaDoor
open Go.RowKit
set_option linter.unusedVariables false

theorem head_at (s : ByteArray) (h : 0 < s.size) : s.data.toList.head? = some (s[0]'h) := by
  have := drop_at s 0 h
  rw [List.drop_zero] at this
  rw [this]
  rfl
theorem pow_small (k : Nat) (h : k < 3) : 10 ^ k ≤ 100 := by
  rcases (show k = 0 ∨ k = 1 ∨ k = 2 by omega) with rfl | rfl | rfl <;> decide
theorem dec_none (a : Nat) (b : UInt8) (l : List UInt8) (h : b.toNat < 48 ∨ 57 < b.toNat) : Lib.decFrom a (b :: l) = none := by
  rw [Lib.decFrom, Lib.digitVal, if_neg (by omega)]
theorem dec_some (a : Nat) (b : UInt8) (l : List UInt8) (h : 48 ≤ b.toNat ∧ b.toNat ≤ 57) : Lib.decFrom a (b :: l) = Lib.decFrom (a * 10 + (b.toNat - 48)) l := by
  rw [Lib.decFrom, Lib.digitVal, if_pos h]

set_option maxHeartbeats 1600000 in
theorem l1Read_any (s : ByteArray) (hs : s.size ≤ 2000000) (w : World) : Calls Tryd.prog 21 #[.string s] w fun e w' => e = .returned (.int .i64 (rdV s.data.toList)) ∧ w = w' := by
  have hsl := size_list s
  cases hin : inR (s.size : Int) 1 3 with
  | false =>
    have hfin : rdV s.data.toList = -1 := by
      rw [rdV, if_neg]
      rintro ⟨⟨h1, h2⟩, _⟩
      rw [inR_yes (by omega)] at hin
      cases hin
    have Hfin := Lib.hid hfin
    have Hin := Lib.hid hin
    clear hfin hin hsl
    go_enter Tryd.func21, Tryd.ntmps21
    go_wp2_with (go_at_call 32; refine (l1In_any _ _ _ _).mono ?_; rintro e w' ⟨rfl, rfl⟩; rw [Hin.out])
    go_ret
    exact ⟨ret_int (by rw [Hfin.out]), rfl⟩
  | true =>
    obtain ⟨i1, i2⟩ := inR_iff.1 hin
    have Hin := Lib.hid hin
    clear hin
    have h0 : 0 < s.size := by omega
    have h3 : s.size ≤ 3 := by omega
    by_cases h1 : s.size = 1
    · have hv : rdV s.data.toList = decV (Lib.decFrom 0 s.data.toList) := by rw [rdV, if_pos ⟨by omega, fun h => absurd h.1 (by omega)⟩]
      have Hv := Lib.hid hv
      have h1' : ¬ ((1 : Int) < (s.size : Int)) := by omega
      clear hv hsl h1
      go_enter Tryd.func21, Tryd.ntmps21
      go_wp2_with (go_at_call 32; refine (l1In_any _ _ _ _).mono ?_; rintro e w' ⟨rfl, rfl⟩; rw [Hin.out])
      go_loop [3, 4] (fun x y => ∃ k a : Nat, k ≤ s.size ∧ x = .int .i64 (a : Int) ∧ y = .int .i64 k ∧ a < 10 ^ k ∧ Lib.decFrom 0 s.data.toList = Lib.decFrom a (s.data.toList.drop k)) (fun _ y => s.size - (intOf y).toNat)
      case atStart => exact ⟨0, 0, by omega, rfl, rfl, by decide, by rw [List.drop_zero]⟩
      case round =>
        obtain ⟨k, a, hk, rfl, rfl, ha, hd⟩ := hrel
        have Hd := Lib.hid hd
        clear hd
        by_cases hlt : k < s.size
        · have hlt' : (k : Int) < s.size := by omega
          have hk0 : (0 : Int) ≤ k := by omega
          have hp := pow_small k (by omega)
          have ha9 : a ≤ 100 := by omega
          have hda := drop_at s k hlt
          obtain ⟨z, hz⟩ : ∃ z : Nat, (s[k]'hlt).toNat = z := ⟨_, rfl⟩
          have hzi : ((s[k]'hlt).toNat : Int) = (z : Int) := by omega
          have hz255 : z ≤ 255 := by
            have := (s[k]'hlt).toNat_lt
            omega
          by_cases h1 : z < 48
          · have hfin : rdV s.data.toList = -1 := by rw [Hv.out, Hd.out, hda, dec_none _ _ _ (by omega), decV]
            have Hfin := Lib.hid hfin
            have e1 : (z : Int) < 48 := by omega
            clear hfin hda hz h1 hp ha
            go_wp2_with (fail)
            go_ret
            exact ⟨ret_int (by rw [Hfin.out]), rfl⟩
          · have e1 : ¬ ((z : Int) < 48) := by omega
            by_cases h2 : 57 < z
            · have hfin : rdV s.data.toList = -1 := by rw [Hv.out, Hd.out, hda, dec_none _ _ _ (by omega), decV]
              have Hfin := Lib.hid hfin
              have e2 : (57 : Int) < (z : Int) := by omega
              clear hfin hda hz h1 h2 hp ha
              go_wp2_with (fail)
              go_ret
              exact ⟨ret_int (by rw [Hfin.out]), rfl⟩
            · have e2 : ¬ ((57 : Int) < (z : Int)) := by omega
              have hnx : Lib.decFrom 0 s.data.toList = Lib.decFrom (a * 10 + (z - 48)) (s.data.toList.drop (k + 1)) := by rw [Hd.out, hda, dec_some _ _ _ (by omega), hz]
              have hpw : a * 10 + (z - 48) < 10 ^ (k + 1) := by rw [Nat.pow_succ]; omega
              have hcast : ((a * 10 + (z - 48) : Nat) : Int) = 10 * (a : Int) + ((z : Int) - 48) := by omega
              have Hnx := Lib.hid hnx
              have Hpw := Lib.hid hpw
              have Hcast := Lib.hid hcast
              have hw1 : IntKind.u8.wrap ((z : Int) - 48) = (z : Int) - 48 := IntWalk.u8_in _ (by omega)
              have hw2 : IntKind.i64.wrap ((z : Int) - 48) = (z : Int) - 48 := IntWalk.i64_in _ (by omega)
              have hw3 : IntKind.i64.wrap (10 * (a : Int)) = 10 * (a : Int) := IntWalk.i64_in _ (by omega)
              have hw4 : IntKind.i64.wrap (10 * (a : Int) + ((z : Int) - 48)) = 10 * (a : Int) + ((z : Int) - 48) := IntWalk.i64_in _ (by omega)
              have hw5 : IntKind.i64.wrap ((k : Int) + 1) = (k : Int) + 1 := IntWalk.i64_in _ (by omega)
              clear hnx hpw hcast hda hz h1 h2 hp ha
              go_wp2_with (fail)
              exact ⟨⟨k + 1, a * 10 + (z - 48), by omega, by rw [Hcast.out], by go_num, Hpw.out, Hnx.out⟩, by simp [intOf]; omega⟩
        · obtain rfl : k = s.size := by omega
          have hfin : rdV s.data.toList = a := by
            rw [Hv.out, Hd.out, show s.data.toList.drop s.size = [] from List.drop_eq_nil_of_le (by rw [size_list]; exact Nat.le_refl _), Lib.decFrom, decV]
          have Hfin := Lib.hid hfin
          clear hfin
          go_wp2_with (fail)
          go_ret
          exact ⟨ret_int (by rw [Hfin.out]), rfl⟩
    · have h1' : (1 : Int) < (s.size : Int) := by omega
      have hh := head_at s h0
      by_cases hb : (s[0]'h0).toNat = 48
      · have hfin : rdV s.data.toList = -1 := by
          rw [rdV, if_neg]
          rintro ⟨_, h⟩
          refine h ⟨by omega, ?_⟩
          rw [hh]
          exact congrArg some (UInt8.toNat_inj.1 (by rw [hb]; rfl))
        have Hfin := Lib.hid hfin
        have hbi : ((s[0]'h0).toNat : Int) = 48 := by omega
        clear hfin hh hb hsl h1
        go_enter Tryd.func21, Tryd.ntmps21
        go_wp2_with (go_at_call 32; refine (l1In_any _ _ _ _).mono ?_; rintro e w' ⟨rfl, rfl⟩; rw [Hin.out])
        go_ret
        exact ⟨ret_int (by rw [Hfin.out]), rfl⟩
      · have hv : rdV s.data.toList = decV (Lib.decFrom 0 s.data.toList) := by
          rw [rdV, if_pos]
          refine ⟨by omega, ?_⟩
          rintro ⟨_, h⟩
          rw [hh] at h
          exact hb (by rw [Option.some.inj h]; rfl)
        have Hv := Lib.hid hv
        have hbi : (((s[0]'h0).toNat : Int) == 48) = false := beq_eq_false_iff_ne.2 (by omega)
        clear hv hh hb hsl h1
        go_enter Tryd.func21, Tryd.ntmps21
        go_wp2_with (go_at_call 32; refine (l1In_any _ _ _ _).mono ?_; rintro e w' ⟨rfl, rfl⟩; rw [Hin.out])
        go_loop [3, 4] (fun x y => ∃ k a : Nat, k ≤ s.size ∧ x = .int .i64 (a : Int) ∧ y = .int .i64 k ∧ a < 10 ^ k ∧ Lib.decFrom 0 s.data.toList = Lib.decFrom a (s.data.toList.drop k)) (fun _ y => s.size - (intOf y).toNat)
        case atStart => exact ⟨0, 0, by omega, rfl, rfl, by decide, by rw [List.drop_zero]⟩
        case round =>
          obtain ⟨k, a, hk, rfl, rfl, ha, hd⟩ := hrel
          have Hd := Lib.hid hd
          clear hd
          by_cases hlt : k < s.size
          · have hlt' : (k : Int) < s.size := by omega
            have hk0 : (0 : Int) ≤ k := by omega
            have hp := pow_small k (by omega)
            have ha9 : a ≤ 100 := by omega
            have hda := drop_at s k hlt
            obtain ⟨z, hz⟩ : ∃ z : Nat, (s[k]'hlt).toNat = z := ⟨_, rfl⟩
            have hzi : ((s[k]'hlt).toNat : Int) = (z : Int) := by omega
            have hz255 : z ≤ 255 := by
              have := (s[k]'hlt).toNat_lt
              omega
            by_cases h1 : z < 48
            · have hfin : rdV s.data.toList = -1 := by rw [Hv.out, Hd.out, hda, dec_none _ _ _ (by omega), decV]
              have Hfin := Lib.hid hfin
              have e1 : (z : Int) < 48 := by omega
              clear hfin hda hz h1 hp ha
              go_wp2_with (fail)
              go_ret
              exact ⟨ret_int (by rw [Hfin.out]), rfl⟩
            · have e1 : ¬ ((z : Int) < 48) := by omega
              by_cases h2 : 57 < z
              · have hfin : rdV s.data.toList = -1 := by rw [Hv.out, Hd.out, hda, dec_none _ _ _ (by omega), decV]
                have Hfin := Lib.hid hfin
                have e2 : (57 : Int) < (z : Int) := by omega
                clear hfin hda hz h1 h2 hp ha
                go_wp2_with (fail)
                go_ret
                exact ⟨ret_int (by rw [Hfin.out]), rfl⟩
              · have e2 : ¬ ((57 : Int) < (z : Int)) := by omega
                have hnx : Lib.decFrom 0 s.data.toList = Lib.decFrom (a * 10 + (z - 48)) (s.data.toList.drop (k + 1)) := by rw [Hd.out, hda, dec_some _ _ _ (by omega), hz]
                have hpw : a * 10 + (z - 48) < 10 ^ (k + 1) := by rw [Nat.pow_succ]; omega
                have hcast : ((a * 10 + (z - 48) : Nat) : Int) = 10 * (a : Int) + ((z : Int) - 48) := by omega
                have Hnx := Lib.hid hnx
                have Hpw := Lib.hid hpw
                have Hcast := Lib.hid hcast
                have hw1 : IntKind.u8.wrap ((z : Int) - 48) = (z : Int) - 48 := IntWalk.u8_in _ (by omega)
                have hw2 : IntKind.i64.wrap ((z : Int) - 48) = (z : Int) - 48 := IntWalk.i64_in _ (by omega)
                have hw3 : IntKind.i64.wrap (10 * (a : Int)) = 10 * (a : Int) := IntWalk.i64_in _ (by omega)
                have hw4 : IntKind.i64.wrap (10 * (a : Int) + ((z : Int) - 48)) = 10 * (a : Int) + ((z : Int) - 48) := IntWalk.i64_in _ (by omega)
                have hw5 : IntKind.i64.wrap ((k : Int) + 1) = (k : Int) + 1 := IntWalk.i64_in _ (by omega)
                clear hnx hpw hcast hda hz h1 h2 hp ha
                go_wp2_with (fail)
                exact ⟨⟨k + 1, a * 10 + (z - 48), by omega, by rw [Hcast.out], by go_num, Hpw.out, Hnx.out⟩, by simp [intOf]; omega⟩
          · obtain rfl : k = s.size := by omega
            have hfin : rdV s.data.toList = a := by
              rw [Hv.out, Hd.out, show s.data.toList.drop s.size = [] from List.drop_eq_nil_of_le (by rw [size_list]; exact Nat.le_refl _), Lib.decFrom, decV]
            have Hfin := Lib.hid hfin
            clear hfin
            go_wp2_with (fail)
            go_ret
            exact ⟨ret_int (by rw [Hfin.out]), rfl⟩
end Go.Proofs.YtbhmbmfhbeocoaaDoor
