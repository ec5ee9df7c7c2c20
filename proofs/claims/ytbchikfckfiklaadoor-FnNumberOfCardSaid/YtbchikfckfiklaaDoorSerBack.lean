/- A valid number is the number of its owner, kind and serial: the plain law. No condition. -/
import Derived.Test.YtbchikfckfiklaaDoorSerial
namespace Go.Proofs.YtbchikfckfiklaaDoor
open Go.RowKit
set_option linter.unusedVariables false

theorem nDigits_pow : ∀ (j n : Nat), 1 ≤ j → n < 10 ^ j → Lib.nDigits n ≤ j := fun j n h1 h2 => (dec_lead j n h1 h2).1
theorem pad_ser {s : ByteArray} (h : nvB s = true) : ∀ j, 1 ≤ j → j ≤ 6 → (s.data.toList.drop 4).take j = List.replicate (j - Lib.nDigits (ser s j).toNat) (48 : UInt8) ++ Lib.decDigits (ser s j).toNat
  | 0, h1, _ => absurd h1 (by omega)
  | j + 1, _, hj => by
    have hsz := nv_size h
    obtain ⟨b, hb, hv⟩ := bt_list s (4 + j) (by omega)
    obtain ⟨h3, h4⟩ := nv_digit h (4 + j) (by omega) (by omega)
    obtain ⟨r1, r2⟩ := ser_range h j (by omega)
    have e : (s.data.toList.drop 4).take (j + 1) = (s.data.toList.drop 4).take j ++ [b] := by
      rw [List.take_add_one, List.getElem?_drop, hb]
      rfl
    have hn : (ser s (j + 1)).toNat = (ser s j).toNat * 10 + (b.toNat - 48) := by
      simp only [ser]
      omega
    have hb8 : UInt8.ofNat (48 + (b.toNat - 48)) = b := by
      rw [show 48 + (b.toNat - 48) = b.toNat by omega]
      exact UInt8.ofNat_toNat
    rw [e]
    by_cases h0 : j = 0
    · subst h0
      have h00 : (ser s (0 + 1)).toNat = b.toNat - 48 := by rw [hn]; simp [ser]
      rw [h00, Lib.nDigits_small (by omega), Lib.decDigits, dif_pos (by omega), hb8]
      simp
    · have ih := pad_ser h j (by omega) (by omega)
      obtain ⟨r3, r4⟩ := ser_range h (j + 1) (by omega)
      have hd := nDigits_pow (j + 1) (ser s (j + 1)).toNat (by omega) (by
        have : ((10 ^ (j + 1) : Nat) : Int) = (10 : Int) ^ (j + 1) := by rw [Int.natCast_pow]; rfl
        omega)
      rw [pad_step j _ (by omega) hd]
      have hq : (ser s (j + 1)).toNat / 10 = (ser s j).toNat := by omega
      have hr : (ser s (j + 1)).toNat % 10 = b.toNat - 48 := by omega
      rw [hq, hr, hb8, ih]
theorem dig6_ser {s : ByteArray} (h : nvB s = true) : dig6 (ser s 6).toNat = s.extract 4 10 := by
  have hp := pad_ser h 6 (by omega) (by omega)
  apply ByteArray.ext
  apply Array.ext'
  rw [ByteArray.data_extract, Array.toList_extract, List.extract_eq_take_drop, hp]
  rfl
theorem kindS_of : ∀ k, k < 3 → ∀ b : UInt8, kindIx (b.toNat : Int) = (k : Nat) → kindS k = ⟨#[b]⟩ := by
  intro k hk b hb
  have key : ∀ n : Fin 256, ∀ k : Fin 3, kindIx (n.val : Int) = (k.val : Int) → (kindS k.val).data.toList = [UInt8.ofNat n.val] := by decide +kernel
  have := key ⟨b.toNat, b.toNat_lt⟩ ⟨k, hk⟩ hb
  apply ByteArray.ext
  apply Array.ext'
  rw [this]
  simp
theorem extract_one (s : ByteArray) (k : Nat) (hk : k < s.size) (b : UInt8) (hb : s.data.toList[k]? = some b) : s.extract k (k + 1) = ⟨#[b]⟩ := by
  apply ByteArray.ext
  apply Array.ext'
  rw [ByteArray.data_extract, Array.toList_extract, List.extract_eq_take_drop]
  have hlt : k < s.data.toList.length := by rw [Array.length_toList]; exact hk
  rw [show k + 1 - k = 1 by omega, List.drop_eq_getElem_cons hlt, List.take_succ_cons, List.take_zero]
  rw [List.getElem?_eq_getElem hlt] at hb
  rw [Option.some.inj hb]
theorem extract_app (s : ByteArray) (i j k : Nat) (h1 : i ≤ j) (h2 : j ≤ k) (h3 : k ≤ s.size) : s.extract i j ++ s.extract j k = s.extract i k := by
  apply ByteArray.ext
  apply Array.ext'
  simp only [ByteArray.data_append, ByteArray.data_extract, Array.toList_append, Array.toList_extract, List.extract_eq_take_drop]
  have : (s.data.toList.drop i).take (k - i) = (s.data.toList.drop i).take (j - i) ++ ((s.data.toList.drop i).drop (j - i)).take (k - j) := by
    rw [show k - i = (j - i) + (k - j) by omega, List.take_add]
  rw [this, List.drop_drop, show i + (j - i) = j by omega]
theorem kind_nv {s : ByteArray} (h : nvB s = true) : 0 ≤ kindIx (bt s 3) ∧ kindIx (bt s 3) ≤ 2 := by
  simp only [nvB, Bool.and_eq_true, decide_eq_true_eq] at h
  obtain ⟨⟨hs, h0⟩, _⟩ := h
  have hok := (crV_range (s.extract 0 10)).2.2.2.1 h0
  simp only [crOk, Bool.and_eq_true, decide_eq_true_eq] at hok
  have h1 := hok.1.2
  rw [bt_extract s 0 10 3 (by omega) (by omega)] at h1
  refine ⟨h1, ?_⟩
  simp only [kindIx]
  split
  · omega
  · split
    · omega
    · split <;> omega
theorem ten_back {s : ByteArray} (h : nvB s = true) : tenS (s.extract 0 3) (kindIx (bt s 3)).toNat (ser s 6).toNat = s.extract 0 10 := by
  have hsz := nv_size h
  obtain ⟨h0, h2⟩ := kind_nv h
  obtain ⟨b, hb, hv⟩ := bt_list s 3 (by omega)
  rw [tenS, dig6_ser h, kindS_of _ (by omega) b (by rw [← hv]; omega), ← extract_one s 3 (by omega) b hb, extract_app s 0 3 4 (by omega) (by omega) (by omega), extract_app s 0 4 10 (by omega) (by omega) (by omega)]
theorem no_back {s : ByteArray} (h : nvB s = true) : noV (s.extract 0 3) (kindIx (bt s 3)) (ser s 6) = s := by
  have hsz := nv_size h
  have hk := kind_nv h
  obtain ⟨r1, r2⟩ := ser_range h 6 (Nat.le_refl _)
  have ht := ten_back h
  have h' := h
  simp only [nvB, Bool.and_eq_true, decide_eq_true_eq, beq_iff_eq] at h'
  obtain ⟨⟨_, h0⟩, h10⟩ := h'
  have hok := (crV_range (s.extract 0 10)).2.2.2.1 h0
  have hr := (crV_range (s.extract 0 10)).2.1
  obtain ⟨b, hb, hv⟩ := bt_list s 10 (by omega)
  rw [noV, inR_yes hk, inR_yes ⟨r1, by omega⟩, ht, hok]
  simp only [Bool.and_self, if_true]
  rw [numS_small (by omega)]
  have e : (⟨#[UInt8.ofNat (48 + (crV (s.extract 0 10) % 10).toNat)]⟩ : ByteArray) = s.extract 10 11 := by
    rw [extract_one s 10 (by omega) b hb]
    have : 48 + (crV (s.extract 0 10) % 10).toNat = b.toNat := by omega
    rw [this, UInt8.ofNat_toNat]
  rw [e, extract_app s 0 10 11 (by omega) (by omega) (by omega)]
  rw [← hsz]
  exact ByteArray.extract_zero_size
theorem own_nv {s : ByteArray} (h : nvB s = true) : (s.extract 0 3).size = 3 := by
  have hsz := nv_size h
  rw [ByteArray.size_extract]; omega
end Go.Proofs.YtbchikfckfiklaaDoor
