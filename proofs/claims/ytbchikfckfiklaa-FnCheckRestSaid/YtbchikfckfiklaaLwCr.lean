/- The walk of the law FnCheckRest. Conditions: that the code reads as bytes. -/
import Derived.Test.YtbchikfckfiklaaCrMath
namespace Go.Proofs.Ytbchikfckfiklaa
open Go.RowKit
set_option linter.unusedVariables false

set_option maxRecDepth 20000 in
set_option maxHeartbeats 3200000 in
theorem fnCheckRest_walk (A : Option Addr) (n c : Nat) (zs : List Int) (w : World) (h : IsRow .u8 w A n c zs) :
    Calls Try.prog 8 #[.slice A n c] w fun e w' => e = .returned (.bool true) ∧ Below w.heap.size w w' := by
  by_cases hn : 1048576 < n
  · have hn' : (1048576 : Int) < n := by omega
    clear h
    go_enter Try.func8, Try.ntmps8
    go_wp2_with (fail)
    go_ret
    exact ⟨rfl, (by repeat' (first | with_reducible exact Below.refl _ _ | with_reducible assumption | with_reducible refine bel_step (by with_reducible assumption) ?_ ?_ | with_reducible refine Below.drew ?_ | with_reducible refine below_drewN ?_ _ | with_reducible refine Below.alloc ?_ ?_ _ | with_reducible refine Below.setCell ?_ ?_ _ | (simp; done) | (simp; omega) | omega | with_reducible refine below_le (by with_reducible assumption) ?_))⟩
  · have hn' : (n : Int) ≤ 1048576 := by omega
    have H := Lib.hid h
    clear h hn
    go_enter Try.func8, Try.ntmps8
    go_wp2_with (fail)
    refine (drawCheckRest_any _ _ _ _ _ H.out).mono ?_
    rintro e w1 ⟨s, rfl, hs12, hb1⟩
    obtain ⟨hr1, hr2, hr3, hr4⟩ := crV_range s
    cases hok : crOk s with
    | false =>
      have hx : crV s = -1 := by simp [crV, hok]
      go_wp2_with (first
        | (go_at_call 13; refine (implCheckRest_any _ _).mono ?_; rintro e w' ⟨rfl, rfl⟩; rw [hx])
        | (go_at_call 12; refine (specCheckRest_any _ _).mono ?_; rintro e w' ⟨rfl, rfl⟩; rw [hx])
        | (go_at_call 17; refine (alive_any _).mono ?_; rintro e w' ⟨rfl, rfl⟩))
      go_ret
      exact ⟨rfl, hb1⟩
    | true =>
      have hs := (crOk_bt hok).1
      have Hchg := Lib.hid (chg_key s hok)
      have Hswp := Lib.hid (swp_key s hok)
      have hx0 := hr4.2 hok
      obtain ⟨x, hx⟩ : ∃ x, crV s = x := ⟨_, rfl⟩
      rw [hx] at hx0 hr2
      obtain ⟨q, rfl⟩ := Int.eq_ofNat_of_zero_le hx0
      clear hr1 hr3 hr4 hx0
      go_wp2_with (first
        | (go_at_call 13; refine (implCheckRest_any _ _).mono ?_; rintro e w' ⟨rfl, rfl⟩; rw [hx])
        | (go_at_call 12; refine (specCheckRest_any _ _).mono ?_; rintro e w' ⟨rfl, rfl⟩; rw [hx]))
      go_loopw [5] (fun i wr => ∃ k : Nat, 4 ≤ k ∧ k ≤ 10 ∧ i = .int .i64 k ∧ Below w.heap.size w wr) (fun i _ => 10 - (intOf i).toNat)
      case atStart => exact ⟨4, by omega, by omega, rfl, hb1⟩
      case round =>
        obtain ⟨k, hk4, hk10, rfl, hbr⟩ := hrel
        have hsr := hbr.size
        by_cases hlt : k < 10
        · have hlt' : (k : Int) < 10 := by omega
          have hk0 : (0 : Int) ≤ k := by omega
          have hk1 : (0 : Int) ≤ (k : Int) + 1 := by omega
          have hk2 : (k : Int) + 1 ≤ 10 := by omega
          have hk3 : (k : Int) ≤ 10 := by omega
          have hwk : IntKind.i64.wrap ((k : Int) + 1) = k + 1 := IntWalk.i64_in _ (by omega)
          have Hck := Lib.hid (fun d hd => Hchg.out k d hk4 hlt hd)
          go_wp2_with (fail)
          go_loopw [6] (fun i wr => ∃ d : Nat, d ≤ 10 ∧ i = .int .i64 d ∧ Below w.heap.size w wr) (fun i _ => 10 - (intOf i).toNat)
          case atStart => exact ⟨0, by omega, rfl, hbr⟩
          case round =>
            clear hbr hsr
            obtain ⟨d, hd, rfl, hbr⟩ := hrel
            have hsr := hbr.size
            by_cases hld : d < 10
            · have hld' : (d : Int) < 10 := by omega
              have hd0 : (0 : Int) ≤ d := by omega
              have hd1 : (0 : Int) ≤ (d : Int) + 1 := by omega
              have hd2 : (d : Int) + 1 ≤ 10 := by omega
              have hd3 : (d : Int) ≤ (d : Int) + 1 := by omega
              have hwd : IntKind.i64.wrap ((d : Int) + 1) = d + 1 := IntWalk.i64_in _ (by omega)
              have hkey := Hck.out d hld
              rw [hx] at hkey
              have z0 : (s.extract 0 k).size = k := by rw [ByteArray.size_extract]; omega
              have z1 := (bt_D10 d hld).2
              have z2 : (s.extract (k + 1) 10).size = 9 - k := by rw [ByteArray.size_extract]; omega
              have ha1 : ∀ W, (Op.stringOp .add (s.extract 0 k) (D10.extract d (d + 1))).run Try.prog W = .ok (.string (s.extract 0 k ++ D10.extract d (d + 1))) W := fun W => run_string_add_sum W _ _ (by rw [z0, z1]; omega)
              have ha2 : ∀ W, (Op.stringOp .add (s.extract 0 k ++ D10.extract d (d + 1)) (s.extract (k + 1) 10)).run Try.prog W = .ok (.string (chg s k d)) W := fun W => run_string_add_sum W _ _ (by rw [ByteArray.size_append, z0, z1, z2]; omega)
              obtain ⟨Z, hZ⟩ : ∃ Z, chg s k d = Z := ⟨_, rfl⟩
              rw [hZ] at ha2 hkey
              unfold D10 at ha1 ha2
              clear z0 z1 z2 hZ
              go_wp2_with (fail)
              go_quiet (fail)
              go_wp2_with (first
                | (go_at_call 13; refine (implCheckRest_any _ _).mono ?_; rintro e w' ⟨rfl, rfl⟩))
              exact ⟨⟨d + 1, by omega, by go_num, (by repeat' (first | with_reducible exact Below.refl _ _ | with_reducible assumption | with_reducible refine bel_step (by with_reducible assumption) ?_ ?_ | with_reducible refine Below.drew ?_ | with_reducible refine below_drewN ?_ _ | with_reducible refine Below.alloc ?_ ?_ _ | with_reducible refine Below.setCell ?_ ?_ _ | (simp; done) | (simp; omega) | omega | with_reducible refine below_le (by with_reducible assumption) ?_))⟩, by simp [intOf]; omega⟩
            · obtain rfl : d = 10 := by omega
              by_cases hk9 : k < 9
              · have hk9' : (k : Int) < 9 := by omega
                have hk1' : k + 1 < s.size := by omega
                have hkl : k < s.size := by omega
                have hk1i : (k : Int) + 1 < 10 := by omega
                by_cases he : ((s[k]'hkl).toNat : Int) = ((s[k + 1]'hk1').toNat : Int)
                · have he' : (((s[k]'hkl).toNat : Int) != ((s[k + 1]'hk1').toNat : Int)) = false := by rw [he]; simp
                  go_wp2_with (fail)
                  go_quiet (fail)
                  go_wp2_with (fail)
                  exact ⟨⟨k + 1, by omega, by omega, by go_num, (by repeat' (first | with_reducible exact Below.refl _ _ | with_reducible assumption | with_reducible refine bel_step (by with_reducible assumption) ?_ ?_ | with_reducible refine Below.drew ?_ | with_reducible refine below_drewN ?_ _ | with_reducible refine Below.alloc ?_ ?_ _ | with_reducible refine Below.setCell ?_ ?_ _ | (simp; done) | (simp; omega) | omega | with_reducible refine below_le (by with_reducible assumption) ?_))⟩, by simp [intOf]; omega⟩
                · have he' : (((s[k]'hkl).toNat : Int) != ((s[k + 1]'hk1').toNat : Int)) = true := by rw [bne_iff_ne]; exact he
                  have hsw := Hswp.out k hk4 hk9 (by rw [← bt_eq s k hkl, ← bt_eq s (k + 1) hk1']; exact he)
                  rw [hx] at hsw
                  have hk5 : (k : Int) + 2 ≤ 10 := by omega
                  have hk6 : (0 : Int) ≤ (k : Int) + 2 := by omega
                  have hk7 : (k : Int) + 1 ≤ (k : Int) + 2 := by omega
                  have hk8 : (k : Int) ≤ (k : Int) + 1 := by omega
                  have hwk2 : IntKind.i64.wrap ((k : Int) + 2) = k + 2 := IntWalk.i64_in _ (by omega)
                  have z0 : (s.extract 0 k).size = k := by rw [ByteArray.size_extract]; omega
                  have z1 : (s.extract (k + 1) (k + 2)).size = 1 := by rw [ByteArray.size_extract]; omega
                  have z2 : (s.extract k (k + 1)).size = 1 := by rw [ByteArray.size_extract]; omega
                  have z3 : (s.extract (k + 2) 10).size = 8 - k := by rw [ByteArray.size_extract]; omega
                  have ha1 : ∀ W, (Op.stringOp .add (s.extract 0 k) (s.extract (k + 1) (k + 2))).run Try.prog W = .ok (.string (s.extract 0 k ++ s.extract (k + 1) (k + 2))) W := fun W => run_string_add_sum W _ _ (by rw [z0, z1]; omega)
                  have ha2 : ∀ W, (Op.stringOp .add (s.extract 0 k ++ s.extract (k + 1) (k + 2)) (s.extract k (k + 1))).run Try.prog W = .ok (.string (s.extract 0 k ++ s.extract (k + 1) (k + 2) ++ s.extract k (k + 1))) W := fun W => run_string_add_sum W _ _ (by rw [ByteArray.size_append, z0, z1, z2]; omega)
                  have ha3 : ∀ W, (Op.stringOp .add (s.extract 0 k ++ s.extract (k + 1) (k + 2) ++ s.extract k (k + 1)) (s.extract (k + 2) 10)).run Try.prog W = .ok (.string (swp s k)) W := fun W => run_string_add_sum W _ _ (by rw [ByteArray.size_append, ByteArray.size_append, z0, z1, z2, z3]; omega)
                  obtain ⟨Z, hZ⟩ : ∃ Z, swp s k = Z := ⟨_, rfl⟩
                  rw [hZ] at ha3 hsw
                  clear z0 z1 z2 z3 hZ
                  go_wp2_with (fail)
                  go_quiet ((go_at_call 13; exact Calls.quiet_of_same (quiet_l (implCheckRest_any _ _))))
                  go_wp2_with (fail)
                  exact ⟨⟨k + 1, by omega, by omega, by go_num, (by repeat' (first | with_reducible exact Below.refl _ _ | with_reducible assumption | with_reducible refine bel_step (by with_reducible assumption) ?_ ?_ | with_reducible refine Below.drew ?_ | with_reducible refine below_drewN ?_ _ | with_reducible refine Below.alloc ?_ ?_ _ | with_reducible refine Below.setCell ?_ ?_ _ | (simp; done) | (simp; omega) | omega | with_reducible refine below_le (by with_reducible assumption) ?_))⟩, by simp [intOf]; omega⟩
              · obtain rfl : k = 9 := by omega
                go_wp2_with (fail)
                go_quiet (fail)
                go_wp2_with (fail)
                exact ⟨⟨10, by omega, by omega, by go_num, (by repeat' (first | with_reducible exact Below.refl _ _ | with_reducible assumption | with_reducible refine bel_step (by with_reducible assumption) ?_ ?_ | with_reducible refine Below.drew ?_ | with_reducible refine below_drewN ?_ _ | with_reducible refine Below.alloc ?_ ?_ _ | with_reducible refine Below.setCell ?_ ?_ _ | (simp; done) | (simp; omega) | omega | with_reducible refine below_le (by with_reducible assumption) ?_))⟩, by simp [intOf]⟩
        · obtain rfl : k = 10 := by omega
          go_wp2_with (fail)
          go_ret
          exact ⟨rfl, hbr⟩
end Go.Proofs.Ytbchikfckfiklaa
