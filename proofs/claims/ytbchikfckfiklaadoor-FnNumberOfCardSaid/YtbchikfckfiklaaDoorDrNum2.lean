/- The drawers of DrawCheckRest and DrawNumberValid; the first ten bytes of a number that is made. Conditions: that the code reads as bytes. -/
import Derived.Test.YtbchikfckfiklaaDoorDrNum
namespace Go.Proofs.YtbchikfckfiklaaDoor
open Go.RowKit
set_option linter.unusedVariables false

theorem bt_append (a b : ByteArray) (i : Nat) : bt (a ++ b) i = if i < a.size then bt a i else bt b (i - a.size) := by
  have e : (a ++ b).data.toList = a.data.toList ++ b.data.toList := by
    obtain ⟨a⟩ := a
    obtain ⟨b⟩ := b
    rw [ByteArray.mk_append_mk]
  have hl : a.data.toList.length = a.size := by rw [Array.length_toList]; rfl
  unfold bt
  rw [e]
  split
  · simp [List.getD, List.getElem?_append_left (show i < a.data.toList.length by omega)]
  · simp [List.getD, List.getElem?_append_right (show a.data.toList.length ≤ i by omega), hl]
theorem dec_digit (n : Nat) : ∀ x ∈ Lib.decDigits n, 48 ≤ x.toNat ∧ x.toNat ≤ 57 := by
  induction n using Nat.strongRecOn with
  | _ n ih =>
    intro x hx
    have one : ∀ d : Nat, d < 10 → 48 ≤ (UInt8.ofNat (48 + d)).toNat ∧ (UInt8.ofNat (48 + d)).toNat ≤ 57 := fun d hd => by
      rw [UInt8.toNat_ofNat']
      omega
    rw [Lib.decDigits] at hx
    split at hx
    · rename_i h
      simp only [List.mem_singleton] at hx
      rw [hx]
      exact one n h
    · rename_i h
      rcases List.mem_append.1 hx with hx | hx
      · exact ih (n / 10) (by omega) x hx
      · simp only [List.mem_singleton] at hx
        rw [hx]
        exact one _ (Nat.mod_lt _ (by omega))
theorem bt_zpad (j n i : Nat) (hi : i < j + Lib.nDigits n) : inR (bt (zpad j n) i) 48 57 = true := by
  have hl : (List.replicate j (48 : UInt8) ++ Lib.decDigits n).length = j + Lib.nDigits n := by simp [Lib.decDigits_length]
  have hm : ∀ x ∈ List.replicate j (48 : UInt8) ++ Lib.decDigits n, 48 ≤ x.toNat ∧ x.toNat ≤ 57 := by
    intro x hx
    rcases List.mem_append.1 hx with hx | hx
    · rw [List.eq_of_mem_replicate hx]
      decide
    · exact dec_digit n x hx
  have e : bt (zpad j n) i = (((List.replicate j (48 : UInt8) ++ Lib.decDigits n)[i]'(by omega)).toNat : Int) := by
    unfold bt zpad
    simp only [List.getD, List.getElem?_eq_getElem (show i < (List.replicate j (48 : UInt8) ++ Lib.decDigits n).length by omega)]
    rfl
  have := hm _ (List.getElem_mem (show i < (List.replicate j (48 : UInt8) ++ Lib.decDigits n).length by omega))
  rw [e]
  exact inR_yes (by omega)
theorem bt_dig6 {n : Nat} (hn : n ≤ 999999) (i : Nat) (hi : i < 6) : inR (bt (dig6 n) i) 48 57 = true := by
  have := nDigits_six hn
  exact bt_zpad _ _ _ (by omega)
theorem kind_bt : ∀ k, k < 3 → kindIx (bt (kindS k) 0) = k := by decide +kernel
theorem ownB_size {s : ByteArray} (h : ownB s = true) : s.size = 3 := by
  simp only [ownB, Bool.and_eq_true, decide_eq_true_eq] at h
  exact h.1.1.1
theorem crOk_ten (owner : ByteArray) {k n : Nat} (hk : k < 3) (hn : n ≤ 999999) : crOk (tenS owner k n) = ownB owner := by
  have hs := tenS_size owner hk hn
  by_cases h3 : owner.size = 3
  · have hks := kindS_size k hk
    have hds := dig6_size hn
    have b (i : Nat) (hi : i < 3) : bt (tenS owner k n) i = bt owner i := by
      rw [tenS, bt_append, if_pos (by rw [ByteArray.size_append]; omega), bt_append, if_pos (by omega)]
    have b3 : bt (tenS owner k n) 3 = bt (kindS k) 0 := by
      rw [tenS, bt_append, if_pos (by rw [ByteArray.size_append]; omega), bt_append, if_neg (by omega), h3]
    have bd (i : Nat) (h4 : 4 ≤ i) (hi : i < 10) : bt (tenS owner k n) i = bt (dig6 n) (i - 4) := by
      rw [tenS, bt_append, if_neg (by rw [ByteArray.size_append]; omega), ByteArray.size_append, h3, hks]
    have e0 := bt_extract (tenS owner k n) 0 3 0 (by omega) (by omega)
    have e1 := bt_extract (tenS owner k n) 0 3 1 (by omega) (by omega)
    have e2 := bt_extract (tenS owner k n) 0 3 2 (by omega) (by omega)
    have es : ((tenS owner k n).extract 0 3).size = 3 := by rw [ByteArray.size_extract]; omega
    have hd : digB (tenS owner k n) 10 = true := by
      simp only [digB, List.all_eq_true, List.mem_range]
      intro i hi
      by_cases h4 : i < 4
      · simp [h4]
      · rw [bd i (by omega) hi, bt_dig6 hn _ (by omega)]
        simp
    have hk0 : decide (0 ≤ kindIx (bt (tenS owner k n) 3)) = true := by rw [b3, kind_bt k hk]; simp
    rw [crOk, hs, h3, hd, hk0]
    simp only [ownB, es, h3, e0, e1, e2, Nat.zero_add, b 0 (by omega), b 1 (by omega), b 2 (by omega)]
    simp
  · have h1 : crOk (tenS owner k n) = false := by
      simp only [crOk, hs]
      rw [decide_eq_false (by omega)]
      rfl
    have h2 : ownB owner = false := by simp [ownB, h3]
    rw [h1, h2]
theorem noV_size {owner : ByteArray} {kind serial : Int} (ho : ownB owner = true) (h0 : 0 ≤ kind) (h1 : kind ≤ 2) (h2 : 0 ≤ serial) (h3 : serial ≤ 999999) : (noV owner kind serial).size = 11 := by
  have hk : kind.toNat < 3 := by omega
  have hn : serial.toNat ≤ 999999 := by omega
  have hc := crOk_ten owner hk hn
  rw [ho] at hc
  obtain ⟨r0, r1, _, r3⟩ := crV_range (tenS owner kind.toNat serial.toNat)
  have h4 := r3.2 hc
  rw [noV, inR_yes ⟨h0, h1⟩, inR_yes ⟨h2, h3⟩, hc]
  rw [if_pos (by rfl), ByteArray.size_append, tenS_size owner hk hn, ownB_size ho, numS_size, Lib.nDigits_small (by omega)]

def DrawStr (w : World) (e : Ending) (w' : World) : Prop := ∃ s : ByteArray, e = .returned (.string s) ∧ s.size ≤ 12 ∧ Below w.heap.size w w'

set_option maxHeartbeats 800000 in
theorem drawNumberValid_any (A : Option Addr) (n c : Nat) (zs : List Int) (w : World) (h : IsRow .u8 w A n c zs) :
    Calls Tryd.prog 28 #[.slice A n c] w (DrawStr w) := by
  have H := Lib.hid h
  clear h
  go_enter Tryd.func28, Tryd.ntmps28
  go_wp2_with (fail)
  refine (l20Open_any _ _ _ _ _ H.out).mono ?_
  rintro e w1 ⟨g, rfl, hr1, hb1⟩
  have hge := hr1.ge
  have hs1 := hb1.size
  go_wp2_with (fail)
  refine (l20Owner_any _ _ _ _ _ hr1 (by omega) (by omega)).mono ?_
  rintro e w2 ⟨ow, rfl, ⟨hown, _⟩, hr2, hg2⟩
  have hown := hown (by omega)
  have hos := ownB_size hown
  have hb2 := below_grown_step hg2 hb1 hge hs1
  have hs2 := hb2.size
  clear hr1 hg2 hb1
  go_wp2_with (fail)
  refine (pick_any _ _ _ _ _ hr2 (by omega)).mono ?_
  rintro e w3 ⟨x3, rfl, hx3, hy3, hr3, hg3⟩
  have hb3 := below_grown_step hg3 hb2 hge hs2
  have hs3 := hb3.size
  clear hr2 hg3 hb2
  go_wp2_with (fail)
  refine (l20Serial_any _ _ _ _ hr3 (by omega)).mono ?_
  rintro e w4 ⟨x4, rfl, hx4, hy4, hr4, hg4⟩
  have hb4 := below_grown_step hg4 hb3 hge hs3
  have hs4 := hb4.size
  clear hr3 hg4 hb3
  have hns := noV_size (kind := x3) (serial := x4) hown hx3 (by omega) hx4 (by omega)
  go_wp2_with (fail)
  refine (specNumberOf_any _ _ _ _ (by omega)).mono ?_
  rintro e w5 ⟨rfl, hb5⟩
  have hr5 := hr4.keep hb5
  have hb6 := hb4.trans (hb5.mono hs4)
  have hs6 := hb6.size
  obtain ⟨T, hT⟩ : ∃ T, noV ow x3 x4 = T := ⟨_, rfl⟩
  rw [hT] at hns ⊢
  clear hr4 hb4 hb5 hT
  go_wp2_with (fail)
  refine (pick_any _ _ _ _ _ hr5 (by omega)).mono ?_
  rintro e w7 ⟨x7, rfl, hx7, hy7, hr7, hg7⟩
  have hb7 := below_grown_step hg7 hb6 hge hs6
  have hs7 := hb7.size
  clear hr5 hg7 hb6
  by_cases hx : x7 = 0
  · subst hx
    go_wp2_with (fail)
    refine (l20Spoil_any _ _ _ _ _ hr7 (by omega) (by omega)).mono ?_
    rintro e w8 ⟨t, rfl, ht, hr8, hg8⟩
    have hb8 := below_grown_step hg8 hb7 hge hs7
    go_wp2_with (fail)
    go_ret
    exact ⟨t, rfl, by omega, hb8⟩
  · have hxb : (x7 == 0) = false := beq_eq_false_iff_ne.2 hx
    go_wp2_with (fail)
    go_ret
    exact ⟨T, rfl, by omega, hb7⟩

end Go.Proofs.YtbchikfckfiklaaDoor
