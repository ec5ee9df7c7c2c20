/- impl.NumberOf, impl.SerialOf, spec.SerialOf. Conditions: that strconv's table of powers of ten is as its text lays it. -/
import Derived.Test.YtbchikfckfiklaaDoorDrNum2
namespace Go.Proofs.YtbchikfckfiklaaDoor
open Go.RowKit
set_option linter.unusedVariables false

/-- the padded numeral, digit by digit -/
theorem pad_step (j n : Nat) (hj : 1 ≤ j) (hn : Lib.nDigits n ≤ j + 1) : List.replicate (j + 1 - Lib.nDigits n) (48 : UInt8) ++ Lib.decDigits n = (List.replicate (j - Lib.nDigits (n / 10)) (48 : UInt8) ++ Lib.decDigits (n / 10)) ++ [UInt8.ofNat (48 + n % 10)] := by
  by_cases h : n < 10
  · have h0 : n / 10 = 0 := by omega
    rw [h0, Lib.nDigits_small h, Lib.nDigits_small (show 0 < 10 by omega)]
    have e1 : Lib.decDigits n = [UInt8.ofNat (48 + n)] := by rw [Lib.decDigits, dif_pos h]
    have e2 : Lib.decDigits 0 = [48] := by rw [Lib.decDigits, dif_pos (by omega)]; rfl
    rw [e1, e2, show n % 10 = n by omega]
    congr 1
    have : j + 1 - 1 = (j - 1) + 1 := by omega
    rw [this, List.replicate_succ']
  · have e1 : Lib.decDigits n = Lib.decDigits (n / 10) ++ [UInt8.ofNat (48 + n % 10)] := by rw [Lib.decDigits, dif_neg h]
    rw [e1, Lib.nDigits_big h]
    rw [show j + 1 - (Lib.nDigits (n / 10) + 1) = j - Lib.nDigits (n / 10) by omega, List.append_assoc]
theorem dec_lead : ∀ (j n : Nat), 1 ≤ j → n < 10 ^ j → Lib.nDigits n ≤ j ∧ Lib.decDigits (10 ^ j + n) = 49 :: (List.replicate (j - Lib.nDigits n) (48 : UInt8) ++ Lib.decDigits n)
  | 0, _, h, _ => absurd h (by omega)
  | 1, n, _, h => by
    have h' : n < 10 := by simpa using h
    refine ⟨by rw [Lib.nDigits_small h']; exact Nat.le_refl _, ?_⟩
    have e1 : Lib.decDigits n = [UInt8.ofNat (48 + n)] := by rw [Lib.decDigits, dif_pos h']
    have e2 : Lib.decDigits (10 ^ 1 + n) = Lib.decDigits 1 ++ [UInt8.ofNat (48 + n)] := by
      rw [Lib.decDigits, dif_neg (by omega), show (10 ^ 1 + n) / 10 = 1 by omega, show (10 ^ 1 + n) % 10 = n by omega]
    have e3 : Lib.decDigits 1 = [49] := by rw [Lib.decDigits, dif_pos (by omega)]; rfl
    rw [e2, e3, e1, Lib.nDigits_small h']
    rfl
  | j + 2, n, _, h => by
    have hp : 10 ^ (j + 2) = 10 * 10 ^ (j + 1) := by rw [Nat.pow_succ]; omega
    obtain ⟨h1, h2⟩ := dec_lead (j + 1) (n / 10) (by omega) (by omega)
    have hd : Lib.nDigits n ≤ j + 1 + 1 := by
      by_cases h10 : n < 10
      · rw [Lib.nDigits_small h10]; omega
      · rw [Lib.nDigits_big h10]; omega
    refine ⟨hd, ?_⟩
    have e2 : Lib.decDigits (10 ^ (j + 2) + n) = Lib.decDigits (10 ^ (j + 1) + n / 10) ++ [UInt8.ofNat (48 + n % 10)] := by
      have hpos : 1 ≤ 10 ^ (j + 1) := Nat.one_le_pow _ _ (by omega)
      rw [Lib.decDigits, dif_neg (by omega), show (10 ^ (j + 2) + n) / 10 = 10 ^ (j + 1) + n / 10 by omega, show (10 ^ (j + 2) + n) % 10 = n % 10 by omega]
    rw [e2, h2, pad_step (j + 1) n (by omega) hd]
    rfl
theorem itoa_lead {n : Nat} (h : n ≤ 999999) : (⟨(Lib.itoa (1000000 + (n : Int))).toArray⟩ : ByteArray).extract 1 7 = dig6 n := by
  obtain ⟨h1, h2⟩ := dec_lead 6 n (by omega) (by omega)
  have e : Lib.itoa (1000000 + (n : Int)) = 49 :: (dig6 n).data.toList := by
    have : (1000000 + (n : Int)) = ((10 ^ 6 + n : Nat) : Int) := by omega
    rw [this, Lib.itoa_nonneg, h2]
    rfl
  have hs := dig6_size h
  apply ByteArray.ext
  rw [ByteArray.data_extract, e]
  apply Array.ext'
  rw [Array.toList_extract]
  have hl : (dig6 n).data.toList.length = 6 := by rw [Array.length_toList]; exact hs
  simp only [List.extract_eq_take_drop, List.drop_succ_cons, List.drop_zero]
  rw [List.take_of_length_le (by omega)]
theorem itoa_size {n : Nat} (h : n ≤ 999999) : (⟨(Lib.itoa (1000000 + (n : Int))).toArray⟩ : ByteArray).size = 7 := by
  obtain ⟨h1, h2⟩ := dec_lead 6 n (by omega) (by omega)
  have : (1000000 + (n : Int)) = ((10 ^ 6 + n : Nat) : Int) := by omega
  rw [this, Lib.itoa_nonneg, h2]
  simp [ByteArray.size, Lib.decDigits_length]
  omega

theorem below_grow {B : Nat} {a w : World} (h : Below B a w) (hB : B ≤ w.heap.size) (os : Array Obj) : Below B a (Go.Sort.grow w os) :=
  h.trans ⟨rfl, rfl, rfl, by simp [Go.Sort.grow], fun k hk => by simp only [Go.Sort.grow]; exact Array.getElem?_append_left (by omega)⟩
theorem rune_digit : ∀ d, d < 10 → ∀ W, (convert 21 9 (.int .i32 (48 + (d : Nat)))).run Tryd.prog W = .ok (.string (numS d)) W := by
  intro d hd W
  rw [numS_small hd]
  rcases (show d = 0 ∨ d = 1 ∨ d = 2 ∨ d = 3 ∨ d = 4 ∨ d = 5 ∨ d = 6 ∨ d = 7 ∨ d = 8 ∨ d = 9 by omega) with rfl | rfl | rfl | rfl | rfl | rfl | rfl | rfl | rfl | rfl <;> kernel_rfl
set_option maxHeartbeats 1600000 in
set_option maxRecDepth 20000 in
theorem implNumberOf_any (owner : ByteArray) (kind serial : Int) (w : World) (ho : owner.size ≤ 1048576) (ht : Lib.TabIs Tryd.prog w "internal/strconv.uint64pow10" .u64 Lib.pow10Tab) :
    Calls Tryd.prog 8 #[.string owner, .int .i64 kind, .int .i64 serial] w (NumPost w (noV owner kind serial)) := by
  have Ht := Lib.hid ht
  clear ht
  by_cases hg : ownB owner = true ∧ (0 ≤ kind ∧ kind ≤ 2) ∧ (0 ≤ serial ∧ serial ≤ 999999)
  · obtain ⟨hown, ⟨k0, k2⟩, s0, s2⟩ := hg
    obtain ⟨k, rfl⟩ := Int.eq_ofNat_of_zero_le k0
    obtain ⟨n, rfl⟩ := Int.eq_ofNat_of_zero_le s0
    have hn6 : n ≤ 999999 := by omega
    have hk3' : k < 3 := by omega
    have hok := crOk_ten owner hk3' hn6
    rw [hown] at hok
    have hfin : noV owner (k : Int) (n : Int) = tenS owner k n ++ numS (crV (tenS owner k n) % 10).toNat := by
      rw [noV, inR_yes ⟨k0, k2⟩, inR_yes ⟨s0, s2⟩]
      rw [show ((k : Int)).toNat = k from rfl, show ((n : Int)).toNat = n from rfl, hok]
      rfl
    have Hfin := Lib.hid hfin
    have Hown := Lib.hid hown
    clear hfin
    have hz := itoa_size hn6
    have hx := itoa_lead hn6
    have hos := ownB_size hown
    have hw0 : IntKind.i64.wrap (1000000 + (n : Int)) = 1000000 + (n : Int) := IntWalk.i64_in _ (by omega)
    obtain ⟨I, hI⟩ : ∃ I, (⟨(Lib.itoa (1000000 + (n : Int))).toArray⟩ : ByteArray) = I := ⟨_, rfl⟩
    rw [hI] at hz hx
    have hk3 : (k : Int) + 1 ≤ 3 := by omega
    have hk1 : (k : Int) ≤ (k : Int) + 1 := by omega
    have hk4 : (0 : Int) ≤ (k : Int) + 1 := by omega
    have hw1 : IntKind.i64.wrap ((k : Int) + 1) = (k : Int) + 1 := IntWalk.i64_in _ (by omega)
    have HI := Lib.hid hI
    clear hI hown
    go_enter Tryd.func8, Tryd.ntmps8
    go_wp2_with (first
      | (go_at_call 18; refine (ownerValid_any _ _).mono ?_; rintro e w' ⟨rfl, rfl⟩; rw [Hown.out])
      | (go_at_call 19; refine (Tryd.strconv_Itoa _ (by omega) (by omega) _ Ht.out).mono ?_; rintro e w1 ⟨rfl, hw1'⟩; rw [HI.out]))
    have hks := kindS_size k hk3'
    have ha1 : ∀ W, (Op.stringOp .add owner ((⟨#[85, 74, 90]⟩ : ByteArray).extract k (k + 1))).run Tryd.prog W = .ok (.string (owner ++ kindS k)) W := fun W => run_string_add_sum W owner (kindS k) (by rw [hks]; omega)
    have ha2 : ∀ W, (Op.stringOp .add (owner ++ kindS k) (dig6 n)).run Tryd.prog W = .ok (.string (tenS owner k n)) W := fun W => run_string_add_sum W (owner ++ kindS k) (dig6 n) (by rw [ByteArray.size_append, hks, dig6_size hn6]; omega)
    have hz7 : (1 : Int) ≤ (I.size : Int) := by omega
    go_region_with (first
      | (go_at_call 19; refine (Tryd.strconv_Itoa _ (by omega) (by omega) _ (show Lib.TabIs Tryd.prog w.drew _ _ _ from Ht.out)).mono ?_; rintro e w1 ⟨rfl, hw1'⟩; rw [HI.out]))
    have hb1 : Below w.heap.size w w1 := by
      obtain ⟨j, os, rfl⟩ := hw1'
      exact below_grow (below_drewN ((Below.refl _ _).drew) _) (Nat.le_refl _) _
    have hts := tenS_size owner hk3' hn6
    obtain ⟨T, hT⟩ : ∃ T, tenS owner k n = T := ⟨_, rfl⟩
    have hfin := Hfin.out
    rw [hT] at hfin hts hok ha2
    obtain ⟨r0, r1, _, r3⟩ := crV_range T
    obtain ⟨q, hq⟩ := Int.eq_ofNat_of_zero_le (r3.2 hok)
    rw [hq] at hfin r1
    have Hfin2 := Lib.hid hfin
    have Hq := Lib.hid hq
    rw [hT]
    clear hfin hx hT ha1 ha2 HI hw1' Hfin r0 r3 hq hz hz7 hks hos hw0 hw1 hk3 hk1 hk4 hok hk3' k0 s0 k2 s2 hn6
    obtain ⟨z, hz⟩ : ∃ z, 48 + (q : Int) % 10 = z := ⟨_, rfl⟩
    have hw4 : IntKind.i32.wrap z = z := IntWalk.i32_in _ (by omega)
    have hcv : ∀ W, (convert 21 9 (.int .i32 z)).run Tryd.prog W = .ok (.string (numS (q % 10))) W := fun W => by
      have := rune_digit (q % 10) (by omega) W
      rwa [show (48 : Int) + ((q % 10 : Nat) : Int) = z by omega] at this
    have hd1 : (numS (q % 10)).size = 1 := by rw [numS_small (by omega)]; rfl
    have ha4 : ∀ W, (Op.stringOp .add T (numS (q % 10))).run Tryd.prog W = .ok (.string (T ++ numS (q % 10))) W := fun W => run_string_add_sum W T _ (by rw [hts, hd1]; omega)
    have Hz := Lib.hid hz
    have hq10 : ((q : Int) % 10).toNat = q % 10 := by omega
    clear hz hts hd1
    go_wp2_with (first
      | (go_at_call 21; refine (implCheckRest_any _ _).mono ?_; rintro e w' ⟨rfl, rfl⟩; rw [Hq.out])
      | (go_at_call 20; refine (checkDigit_any _ _ (by omega)).mono ?_; rintro e w' ⟨rfl, rfl⟩; rw [Hz.out]))
    go_ret
    exact ⟨by rw [Hfin2.out, hq10]; rfl, hb1⟩
  · have hfin : noV owner kind serial = ByteArray.empty := by
      cases hk : inR kind 0 2 with
      | false => simp [noV, hk]
      | true =>
        cases hs : inR serial 0 999999 with
        | false => simp [noV, hs]
        | true =>
          have hk' := inR_iff.1 hk
          have hs' := inR_iff.1 hs
          have hc := crOk_ten owner (k := kind.toNat) (n := serial.toNat) (by omega) (by omega)
          have ho' : ownB owner = false := by
            cases h : ownB owner with
            | false => rfl
            | true => exact absurd ⟨h, hk', hs'⟩ hg
          simp [noV, hc, ho']
    rw [hfin]
    clear hfin
    cases hown : ownB owner with
    | false =>
      have Hown := Lib.hid hown
      clear hown hg
      go_enter Tryd.func8, Tryd.ntmps8
      go_wp2_with (first
        | (go_at_call 18; refine (ownerValid_any _ _).mono ?_; rintro e w' ⟨rfl, rfl⟩; rw [Hown.out]))
      go_ret
      exact ⟨rfl, (by repeat' (first | with_reducible exact Below.refl _ _ | with_reducible assumption | with_reducible refine bel_step (by with_reducible assumption) ?_ ?_ | with_reducible refine Below.drew ?_ | with_reducible refine below_drewN ?_ _ | with_reducible refine Below.alloc ?_ ?_ _ | with_reducible refine Below.setCell ?_ ?_ _ | (simp; done) | (simp; omega) | omega | with_reducible refine below_le (by with_reducible assumption) ?_))⟩
    | true =>
      have hg' : ¬ ((0 ≤ kind ∧ kind ≤ 2) ∧ (0 ≤ serial ∧ serial ≤ 999999)) := fun h => hg ⟨hown, h⟩
      have Hown := Lib.hid hown
      have Hg := Lib.hid hg'
      clear hown hg hg'
      go_enter Tryd.func8, Tryd.ntmps8
      go_wp2_with (first
        | (go_at_call 18; refine (ownerValid_any _ _).mono ?_; rintro e w' ⟨rfl, rfl⟩; rw [Hown.out]))
      all_goals first
        | (go_ret; exact ⟨rfl, (by repeat' (first | with_reducible exact Below.refl _ _ | with_reducible assumption | with_reducible refine bel_step (by with_reducible assumption) ?_ ?_ | with_reducible refine Below.drew ?_ | with_reducible refine below_drewN ?_ _ | with_reducible refine Below.alloc ?_ ?_ _ | with_reducible refine Below.setCell ?_ ?_ _ | (simp; done) | (simp; omega) | omega | with_reducible refine below_le (by with_reducible assumption) ?_))⟩)
        | (exfalso; have := Hg.out; omega)
end Go.Proofs.YtbchikfckfiklaaDoor
