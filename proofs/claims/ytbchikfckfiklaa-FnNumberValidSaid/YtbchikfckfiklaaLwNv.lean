/- The walk of the law FnNumberValid. Conditions: that the code reads as bytes. -/
import Derived.Test.YtbchikfckfiklaaCrMath
namespace Go.Proofs.Ytbchikfckfiklaa
open Go.RowKit
set_option linter.unusedVariables false

def nvd (s : ByteArray) (d : Nat) : ByteArray := s.extract 0 10 ++ D10.extract d (d + 1)
theorem nvB_parts {s : ByteArray} (h : nvB s = true) : s.size = 11 ∧ 0 ≤ crV (s.extract 0 10) := by
  simp only [nvB, Bool.and_eq_true, decide_eq_true_eq] at h
  exact h.1
theorem nvd_key (s : ByteArray) (h : nvB s = true) (d : Nat) (hd : d < 10) : nvB (nvd s d) = ((d : Int) == crV (s.extract 0 10) % 10) := by
  obtain ⟨hs, h0⟩ := nvB_parts h
  have z0 : (s.extract 0 10).size = 10 := by rw [ByteArray.size_extract]; omega
  obtain ⟨b0, z1⟩ := bt_D10 d hd
  have hz : (nvd s d).size = 11 := by rw [nvd, ByteArray.size_append, z0, z1]
  have he : (nvd s d).extract 0 10 = s.extract 0 10 := by
    refine ext_bt (by rw [ByteArray.size_extract, hz, z0]; omega) fun i hi => ?_
    have hi10 : i < 10 := by rw [ByteArray.size_extract, hz] at hi; omega
    rw [bt_extract _ 0 10 i (by omega) (by omega), Nat.zero_add, nvd, bt_append, z0, if_pos hi10]
  have hb : bt (nvd s d) 10 = 48 + (d : Int) := by rw [nvd, bt_append, z0, if_neg (by omega), Nat.sub_self, b0]
  rw [nvB, hz, he, hb, decide_eq_true h0]
  simp only [decide_true, Bool.true_and]
  rw [Bool.eq_iff_iff, beq_iff_eq, beq_iff_eq]
  omega

set_option maxRecDepth 20000 in
set_option maxHeartbeats 3200000 in
theorem fnNumberValid_walk (A : Option Addr) (n c : Nat) (zs : List Int) (w : World) (h : IsRow .u8 w A n c zs) :
    Calls Try.prog 9 #[.slice A n c] w fun e w' => e = .returned (.bool true) ∧ Below w.heap.size w w' := by
  by_cases hn : 1048576 < n
  · have hn' : (1048576 : Int) < n := by omega
    clear h
    go_enter Try.func9, Try.ntmps9
    go_wp2_with (fail)
    go_ret
    exact ⟨rfl, (by repeat' (first | with_reducible exact Below.refl _ _ | with_reducible assumption | with_reducible refine bel_step (by with_reducible assumption) ?_ ?_ | with_reducible refine Below.drew ?_ | with_reducible refine below_drewN ?_ _ | with_reducible refine Below.alloc ?_ ?_ _ | with_reducible refine Below.setCell ?_ ?_ _ | (simp; done) | (simp; omega) | omega | with_reducible refine below_le (by with_reducible assumption) ?_))⟩
  · have hn' : (n : Int) ≤ 1048576 := by omega
    have H := Lib.hid h
    clear h hn
    go_enter Try.func9, Try.ntmps9
    go_wp2_with (fail)
    refine (drawNumberValid_any _ _ _ _ _ H.out).mono ?_
    rintro e w1 ⟨s, rfl, hs12, hb1⟩
    have hs1 := hb1.size
    cases hok : nvB s with
    | false =>
      go_wp2_with (fail)
      refine (implNumberValid_any _ _).mono ?_
      rintro e w2 ⟨rfl, hb2⟩
      rw [hok]
      have hb3 := hb1.trans (hb2.mono hs1)
      have hs3 := hb3.size
      go_wp2_with (fail)
      refine (specNumberValid_any _ _).mono ?_
      rintro e w4 ⟨rfl, hb4⟩
      rw [hok]
      have hb5 := hb3.trans (hb4.mono hs3)
      go_wp2_with (go_at_call 17; refine (alive_any _).mono ?_; rintro e w' ⟨rfl, rfl⟩)
      go_ret
      exact ⟨rfl, hb5⟩
    | true =>
      obtain ⟨hs, hr0⟩ := nvB_parts hok
      have hkey := nvd_key s hok
      have h10 : nvB (s.extract 0 10) = false := by
        have : (s.extract 0 10).size = 10 := by rw [ByteArray.size_extract]; omega
        simp [nvB, this]
      obtain ⟨r, hr⟩ : ∃ r, crV (s.extract 0 10) % 10 = r := ⟨_, rfl⟩
      have hrr : 0 ≤ r ∧ r < 10 := by omega
      obtain ⟨q, rfl⟩ := Int.eq_ofNat_of_zero_le hrr.1
      rw [hr] at hkey
      have Hkey := Lib.hid hkey
      have hq10 : q < 10 := by omega
      clear hkey hr hr0 hrr
      go_wp2_with (fail)
      refine (implNumberValid_any _ _).mono ?_
      rintro e w2 ⟨rfl, hb2⟩
      rw [hok]
      have hb3 := hb1.trans (hb2.mono hs1)
      have hs3 := hb3.size
      go_wp2_with (fail)
      refine (specNumberValid_any _ _).mono ?_
      rintro e w4 ⟨rfl, hb4⟩
      rw [hok]
      have hb5 := hb3.trans (hb4.mono hs3)
      clear hb1 hb2 hb3 hb4 hs1 hs3
      go_wp2_with (fail)
      go_loopw [5, 6] (fun v i wr => ∃ d : Nat, d ≤ 10 ∧ i = .int .i64 d ∧ v = .int .i64 (if q < d then 1 else 0) ∧ Below w.heap.size w wr) (fun _ i _ => 10 - (intOf i).toNat)
      case atStart => exact ⟨0, by omega, rfl, rfl, hb5⟩
      case round =>
        clear hb5
        obtain ⟨d, hd, rfl, rfl, hbr⟩ := hrel
        have hsr := hbr.size
        by_cases hlt : d < 10
        · have hlt' : (d : Int) < 10 := by omega
          have hd0 : (0 : Int) ≤ d := by omega
          have hd1 : (0 : Int) ≤ (d : Int) + 1 := by omega
          have hd2 : (d : Int) + 1 ≤ 10 := by omega
          have hd3 : (d : Int) ≤ (d : Int) + 1 := by omega
          have hwd : IntKind.i64.wrap ((d : Int) + 1) = d + 1 := IntWalk.i64_in _ (by omega)
          have hkey := Hkey.out d hlt
          have hs10 : (10 : Int) ≤ s.size := by omega
          have z0 : (s.extract 0 10).size = 10 := by rw [ByteArray.size_extract]; omega
          have z1 := (bt_D10 d hlt).2
          have ha1 : ∀ W, (Op.stringOp .add (s.extract 0 10) (D10.extract d (d + 1))).run Try.prog W = .ok (.string (nvd s d)) W := fun W => run_string_add_sum W _ _ (by rw [z0, z1]; omega)
          obtain ⟨Z, hZ⟩ : ∃ Z, nvd s d = Z := ⟨_, rfl⟩
          rw [hZ] at ha1 hkey
          unfold D10 at ha1
          clear z0 z1 hZ
          by_cases hdq : d = q
          · subst hdq
            rw [beq_self_eq_true] at hkey
            rw [if_neg (by omega)]
            go_wp2_with (fail)
            go_region_with (first
              | (go_at_call 15; refine (implNumberValid_any _ _).mono ?_; rintro e v2 ⟨rfl, hv2⟩; rw [hkey]
                 have hb2 : Below w.heap.size w v2 := hbr.drew.trans (hv2.mono hsr)))
            all_goals go_wp2_with (fail)
            all_goals exact ⟨⟨d + 1, by omega, by go_num, by rw [if_pos (by omega)], hb2⟩, by simp [intOf]; omega⟩
          · have hne : ((d : Int) == (q : Int)) = false := by rw [beq_eq_false_iff_ne]; omega
            rw [hne] at hkey
            obtain ⟨v, hv⟩ : ∃ v : Int, (if q < d then (1 : Int) else 0) = v := ⟨_, rfl⟩
            have hv2 : (if q < d + 1 then (1 : Int) else 0) = v := by
              rw [← hv]
              by_cases h1 : q < d
              · rw [if_pos h1, if_pos (by omega)]
              · rw [if_neg h1, if_neg (by omega)]
            rw [hv]
            have Hv2 := Lib.hid hv2
            clear hv hv2
            go_wp2_with (fail)
            go_region_with (first
              | (go_at_call 15; refine (implNumberValid_any _ _).mono ?_; rintro e v2 ⟨rfl, hv2⟩; rw [hkey]
                 have hb2 : Below w.heap.size w v2 := hbr.drew.trans (hv2.mono hsr)))
            all_goals go_wp2_with (fail)
            all_goals exact ⟨⟨d + 1, by omega, by go_num, by rw [Hv2.out], hb2⟩, by simp [intOf]; omega⟩
        · obtain rfl : d = 10 := by omega
          rw [if_pos hq10]
          go_wp2_with (go_at_call 15; refine (implNumberValid_any _ _).mono ?_; rintro e v2 ⟨rfl, hv2⟩; rw [h10]; have hb2 : Below w.heap.size w v2 := hbr.trans (hv2.mono hsr))
          go_ret
          exact ⟨rfl, hb2⟩
end Go.Proofs.Ytbchikfckfiklaa
