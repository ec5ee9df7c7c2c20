/- What spec.NumberOf gives is valid and tells its owner and its serial: the plain law. No condition. -/
import Derived.Test.YtbchikfckfiklaaDoorSerBack
namespace Go.Proofs.YtbchikfckfiklaaDoor
open Go.RowKit
set_option linter.unusedVariables false

theorem dec_pad : ∀ (j n : Nat), 1 ≤ j → n < 10 ^ j → Lib.decFrom 0 (List.replicate (j - Lib.nDigits n) (48 : UInt8) ++ Lib.decDigits n) = some n
  | 0, _, h, _ => absurd h (by omega)
  | 1, n, _, h => by
    have h' : n < 10 := by simpa using h
    rw [Lib.nDigits_small h', Lib.decDigits, dif_pos h']
    have : (UInt8.ofNat (48 + n)).toNat = 48 + n := by
      simp [UInt8.toNat_ofNat']
      omega
    simp only [Nat.sub_self, List.replicate_zero, List.nil_append, Lib.decFrom, Lib.digitVal, this]
    rw [if_pos (by omega)]
    simp
  | j + 2, n, _, h => by
    have hp : 10 ^ (j + 2) = 10 * 10 ^ (j + 1) := by rw [Nat.pow_succ]; omega
    have ih := dec_pad (j + 1) (n / 10) (by omega) (by omega)
    have hd := nDigits_pow (j + 2) n (by omega) h
    have : (UInt8.ofNat (48 + n % 10)).toNat = 48 + n % 10 := by
      simp [UInt8.toNat_ofNat']
      omega
    rw [pad_step (j + 1) n (by omega) hd, decFrom_snoc _ 0 _ _ (n % 10) ih (by rw [Lib.digitVal, this, if_pos (by omega)]; simp)]
    congr 1
    omega
theorem extract_left (a b : ByteArray) (i j : Nat) (h : j ≤ a.size) : (a ++ b).extract i j = a.extract i j := by
  apply ByteArray.ext
  apply Array.ext'
  simp only [ByteArray.data_append, ByteArray.data_extract, Array.toList_append, Array.toList_extract, List.extract_eq_take_drop]
  have hl : a.data.toList.length = a.size := by rw [Array.length_toList]; rfl
  by_cases hi : i ≤ j
  · rw [List.drop_append_of_le_length (by omega), List.take_append_of_le_length (by rw [List.length_drop]; omega)]
  · rw [show j - i = 0 by omega]
    simp
structure NoFwd (owner : ByteArray) (kind serial : Int) : Prop where
  val : nvB (noV owner kind serial) = true
  own : (noV owner kind serial).extract 0 3 = owner
  ser : serV (noV owner kind serial) = serial
  siz : (noV owner kind serial).size = 11
theorem no_fwd {owner : ByteArray} {kind serial : Int} (hne : noV owner kind serial ≠ ByteArray.empty) : NoFwd owner kind serial := by
  have hc : (inR kind 0 2 && inR serial 0 999999 && crOk (tenS owner kind.toNat serial.toNat)) = true := by
    cases h : (inR kind 0 2 && inR serial 0 999999 && crOk (tenS owner kind.toNat serial.toNat)) with
    | true => rfl
    | false => exact absurd (by rw [noV, h]; rfl) hne
  have e0 : noV owner kind serial = tenS owner kind.toNat serial.toNat ++ numS (crV (tenS owner kind.toNat serial.toNat) % 10).toNat := by rw [noV, hc]; rfl
  simp only [Bool.and_eq_true] at hc
  obtain ⟨⟨hk, hs⟩, hok⟩ := hc
  have hk' := inR_iff.1 hk
  have hs' := inR_iff.1 hs
  obtain ⟨k, rfl⟩ := Int.eq_ofNat_of_zero_le hk'.1
  obtain ⟨n, rfl⟩ := Int.eq_ofNat_of_zero_le hs'.1
  simp only [Int.toNat_natCast] at e0 hok
  have hk3 : k < 3 := by omega
  have hn6 : n ≤ 999999 := by omega
  have hown : ownB owner = true := by rw [← crOk_ten owner hk3 hn6]; exact hok
  have hos := ownB_size hown
  have hts := tenS_size owner hk3 hn6
  obtain ⟨r0, r1, _, r3⟩ := crV_range (tenS owner k n)
  have r4 := r3.2 hok
  have hd1 : (numS (crV (tenS owner k n) % 10).toNat).size = 1 := by rw [numS_small (by omega)]; rfl
  have hx10 : (noV owner (k : Int) (n : Int)).extract 0 10 = tenS owner k n := by
    rw [e0, extract_left _ _ _ _ (by omega)]
    rw [show 10 = (tenS owner k n).size by omega]
    exact ByteArray.extract_zero_size
  have hsz : (noV owner (k : Int) (n : Int)).size = 11 := by rw [e0, ByteArray.size_append]; omega
  have hb10 : bt (noV owner (k : Int) (n : Int)) 10 = 48 + crV (tenS owner k n) % 10 := by
    rw [e0, bt_append, if_neg (by omega), hts, hos, numS_small (by omega)]
    have : (UInt8.ofNat (48 + (crV (tenS owner k n) % 10).toNat)).toNat = 48 + (crV (tenS owner k n) % 10).toNat := by
      simp [UInt8.toNat_ofNat']
      omega
    show ((UInt8.ofNat (48 + (crV (tenS owner k n) % 10).toNat)).toNat : Int) = _
    rw [this]
    omega
  have hv : nvB (noV owner (k : Int) (n : Int)) = true := by
    rw [nvB, hsz, hx10, hb10]
    simp [r4]
  refine ⟨hv, ?_, ?_, hsz⟩
  · rw [e0, extract_left _ _ _ _ (by omega), tenS, ByteArray.append_assoc, extract_left _ _ _ _ (by omega)]
    rw [show 3 = owner.size by omega]
    exact ByteArray.extract_zero_size
  · have hd := dec_ser hv 6 (by omega)
    have e4 : ((noV owner (k : Int) (n : Int)).data.toList.drop 4).take 6 = (dig6 n).data.toList := by
      have h1 : (noV owner (k : Int) (n : Int)).data.toList = (owner ++ kindS k).data.toList ++ ((dig6 n).data.toList ++ (numS (crV (tenS owner k n) % 10).toNat).data.toList) := by
        rw [e0, tenS]
        simp
      have h2 : (owner ++ kindS k).data.toList.length = 4 := by
        rw [Array.length_toList]
        show (owner ++ kindS k).size = 4
        rw [ByteArray.size_append, kindS_size k hk3, hos]
      have h3 : (dig6 n).data.toList.length = 6 := by rw [Array.length_toList]; exact dig6_size hn6
      rw [h1, List.drop_append, h2]
      rw [List.drop_of_length_le (by omega)]
      simp [h3]
    rw [e4] at hd
    have hp := dec_pad 6 n (by omega) (by omega)
    have : (ser (noV owner (k : Int) (n : Int)) 6).toNat = n := by
      have h5 : some (ser (noV owner (k : Int) (n : Int)) 6).toNat = some n := hd.symm.trans hp
      exact Option.some.inj h5
    have hr := (ser_range hv 6 (Nat.le_refl _)).1
    rw [serV, hv, if_pos rfl]
    omega
end Go.Proofs.YtbchikfckfiklaaDoor
