/- impl.SerialOf, spec.SerialOf; the walk of the law FnExactSerialOf. No condition. -/
import Derived.Test.YtbchikfckfiklaaDoorNoLaw1
import Derived.Lib.AtoiErrMem
namespace Go.Proofs.YtbchikfckfiklaaDoor
open Go.RowKit
set_option linter.unusedVariables false

/-- the number that the digits from place 4 on spell -/
def ser (s : ByteArray) : Nat → Int
  | 0 => 0
  | j + 1 => 10 * ser s j + (bt s (4 + j) - 48)
def serV (s : ByteArray) : Int := if nvB s then ser s 6 else -1
def decl (s : ByteArray) (k : Nat) : UInt8 := s.data.toList.getD k 0

theorem decFrom_snoc : ∀ (l : List UInt8) (acc : Nat) (b : UInt8) (n d : Nat), Lib.decFrom acc l = some n → Lib.digitVal b = some d → Lib.decFrom acc (l ++ [b]) = some (n * 10 + d)
  | [], acc, b, n, d, h, hd => by
    simp only [Lib.decFrom, Option.some.injEq] at h
    subst h
    simp [Lib.decFrom, hd]
  | a :: l, acc, b, n, d, h, hd => by
    simp only [List.cons_append, Lib.decFrom] at h ⊢
    cases ha : Lib.digitVal a with
    | none => rw [ha] at h; cases h
    | some x =>
      rw [ha] at h
      exact decFrom_snoc l _ b n d h hd

theorem nv_digit {s : ByteArray} (h : nvB s = true) (k : Nat) (h4 : 4 ≤ k) (h10 : k < 10) : 48 ≤ bt s k ∧ bt s k ≤ 57 := by
  simp only [nvB, Bool.and_eq_true, decide_eq_true_eq] at h
  obtain ⟨⟨hs, h0⟩, _⟩ := h
  have hok := (crV_range (s.extract 0 10)).2.2.2.1 h0
  simp only [crOk, Bool.and_eq_true] at hok
  have hd := hok.2
  simp only [digB, List.all_eq_true, List.mem_range] at hd
  have := hd k h10
  rw [bt_extract s 0 10 k (by omega) (by omega), Nat.zero_add] at this
  simp only [Bool.or_eq_true, decide_eq_true_eq] at this
  rcases this with h | h
  · omega
  · exact inR_iff.1 h
theorem nv_size {s : ByteArray} (h : nvB s = true) : s.size = 11 := by
  simp only [nvB, Bool.and_eq_true, decide_eq_true_eq] at h
  exact h.1.1
theorem ser_range {s : ByteArray} (h : nvB s = true) : ∀ j, j ≤ 6 → 0 ≤ ser s j ∧ ser s j < 10 ^ j
  | 0, _ => by simp [ser]
  | j + 1, hj => by
    obtain ⟨h1, h2⟩ := ser_range h j (by omega)
    obtain ⟨h3, h4⟩ := nv_digit h (4 + j) (by omega) (by omega)
    have hp : (10 : Int) ^ (j + 1) = 10 * 10 ^ j := by rw [Int.pow_succ]; omega
    rw [hp]
    simp only [ser]
    omega
theorem bt_list (s : ByteArray) (k : Nat) (hk : k < s.size) : ∃ b, s.data.toList[k]? = some b ∧ bt s k = (b.toNat : Int) := by
  have hl : k < s.data.toList.length := by rw [Array.length_toList]; exact hk
  refine ⟨s.data.toList[k], List.getElem?_eq_getElem hl, ?_⟩
  have e : s.data.toList.getD k 0 = s.data.toList[k] := by rw [List.getD_eq_getElem?_getD, List.getElem?_eq_getElem hl]; rfl
  show ((s.data.toList.getD k 0).toNat : Int) = _
  rw [e]
theorem dec_ser {s : ByteArray} (h : nvB s = true) : ∀ j, j ≤ 6 → Lib.decFrom 0 ((s.data.toList.drop 4).take j) = some (ser s j).toNat
  | 0, _ => by simp [Lib.decFrom, ser]
  | j + 1, hj => by
    have ih := dec_ser h j (by omega)
    have hsz := nv_size h
    obtain ⟨b, hb, hv⟩ := bt_list s (4 + j) (by omega)
    obtain ⟨h3, h4⟩ := nv_digit h (4 + j) (by omega) (by omega)
    obtain ⟨h1, h2⟩ := ser_range h j (by omega)
    have e : (s.data.toList.drop 4).take (j + 1) = (s.data.toList.drop 4).take j ++ [b] := by
      rw [List.take_add_one, List.getElem?_drop, hb]
      rfl
    rw [e, decFrom_snoc _ 0 b _ (b.toNat - 48) ih (by rw [Lib.digitVal, if_pos (by omega)])]
    congr 1
    simp only [ser]
    omega
theorem atoi_ser {s : ByteArray} (h : nvB s = true) : Lib.atoi (s.extract 4 10).data.toList = some (ser s 6) := by
  have hsz := nv_size h
  have hl : s.data.toList.length = 11 := by rw [Array.length_toList]; exact hsz
  have e : (s.extract 4 10).data.toList = (s.data.toList.drop 4).take 6 := by
    rw [ByteArray.data_extract, Array.toList_extract, List.extract_eq_take_drop]
  have hd := dec_ser h 6 (Nat.le_refl _)
  obtain ⟨b, hb, hv⟩ := bt_list s 4 (by omega)
  obtain ⟨h3, h4⟩ := nv_digit h 4 (by omega) (by omega)
  obtain ⟨h1, h2⟩ := ser_range h 6 (by omega)
  rw [e]
  have hne : (s.data.toList.drop 4).take 6 = b :: ((s.data.toList.drop 5).take 5) := by
    have hlt : 4 < s.data.toList.length := by omega
    rw [List.drop_eq_getElem_cons hlt, List.take_succ_cons]
    rw [List.getElem?_eq_getElem hlt] at hb
    rw [Option.some.inj hb]
  rw [hne] at hd ⊢
  have hb1 : (b == 45) = false := by
    rw [beq_eq_false_iff_ne]
    rintro rfl
    rw [hv] at h3
    exact absurd h3 (by decide)
  have hb2 : (b == 43) = false := by
    rw [beq_eq_false_iff_ne]
    rintro rfl
    rw [hv] at h3
    exact absurd h3 (by decide)
  rw [Lib.atoi, hb1, hb2]
  simp only [Lib.decNat, List.isEmpty_cons, Bool.false_eq_true, if_false, hd, Option.map_some]
  congr 1
  omega

set_option maxHeartbeats 800000 in
theorem implSerialOf_any (s : ByteArray) (w : World) :
    Calls Tryd.prog 10 #[.string s] w fun e w' => e = .returned (.int .i64 (serV s)) ∧ Below w.heap.size w w' := by
  cases hv : nvB s with
  | false =>
    have hfin : serV s = -1 := by simp [serV, hv]
    rw [hfin]
    go_enter Tryd.func10, Tryd.ntmps10
    go_wp2_with (go_at_call 13; refine (implNumberValid_any _ _).mono ?_; rintro e w1 ⟨rfl, hb1⟩; rw [hv])
    go_ret
    exact ⟨rfl, hb1⟩
  | true =>
    have hfin : serV s = ser s 6 := by simp [serV, hv]
    have hat := atoi_ser hv
    have hsz := nv_size hv
    have hsx : (s.extract 4 10).size = 6 := by rw [ByteArray.size_extract]; omega
    have hsz' : (10 : Int) ≤ (s.size : Int) := by omega
    have Hat := Lib.hid hat
    have Hfin := Lib.hid hfin
    have Hv := Lib.hid hv
    clear hat hfin hv
    go_enter Tryd.func10, Tryd.ntmps10
    go_wp2_with (first
      | (go_at_call 13; refine (implNumberValid_any _ _).mono ?_; rintro e w1 ⟨rfl, hb1⟩; rw [Hv.out])
      | (go_at_call 23; refine (Tryd.strconv_Atoi _ _ (by rw [hsx]; omega) Hat.out _).mono ?_; rintro e w2 ⟨rfl, t, rfl⟩))
    go_ret
    exact ⟨by rw [Hfin.out]; rfl, hb1.trans ((Lib.bytesWorld_below _ _ _).mono hb1.size)⟩

set_option maxHeartbeats 800000 in
theorem specSerialOf_any (s : ByteArray) (w : World) :
    Calls Tryd.prog 9 #[.string s] w fun e w' => e = .returned (.int .i64 (serV s)) ∧ Below w.heap.size w w' := by
  cases hv : nvB s with
  | false =>
    have hfin : serV s = -1 := by simp [serV, hv]
    rw [hfin]
    go_enter Tryd.func9, Tryd.ntmps9
    go_wp2_with (go_at_call 22; refine (specNumberValid_any _ _).mono ?_; rintro e w1 ⟨rfl, hb1⟩; rw [hv])
    go_ret
    exact ⟨rfl, hb1⟩
  | true =>
    have hfin : serV s = ser s 6 := by simp [serV, hv]
    have hsz := nv_size hv
    have Hfin := Lib.hid hfin
    have Hv := Lib.hid hv
    clear hfin hv
    go_enter Tryd.func9, Tryd.ntmps9
    go_wp2_with (go_at_call 22; refine (specNumberValid_any _ _).mono ?_; rintro e w1 ⟨rfl, hb1⟩; rw [Hv.out])
    go_loop [3, 4] (fun x y => ∃ k : Nat, 4 ≤ k ∧ k ≤ 10 ∧ x = .int .i64 (ser s (k - 4)) ∧ y = .int .i64 k) (fun x y => 10 - (intOf y).toNat)
    case atStart => exact ⟨4, by omega, by omega, rfl, rfl⟩
    case round =>
      obtain ⟨k, hk4, hk10, rfl, rfl⟩ := hrel
      by_cases hlt : k < 10
      · have hlt' : (k : Int) < 10 := by omega
        have hk0 : (0 : Int) ≤ (k : Int) := by omega
        have hks : (k : Int) < (s.size : Int) := by omega
        obtain ⟨d1, d2⟩ := nv_digit Hv.out k hk4 hlt
        obtain ⟨s1, s2⟩ := ser_range Hv.out (k - 4) (by omega)
        have hp : (10 : Int) ^ (k - 4) ≤ 1000000 := by
          obtain ⟨j, rfl⟩ : ∃ j, k = 4 + j := ⟨k - 4, by omega⟩
          rw [show 4 + j - 4 = j by omega]
          rcases (show j = 0 ∨ j = 1 ∨ j = 2 ∨ j = 3 ∨ j = 4 ∨ j = 5 by omega) with rfl | rfl | rfl | rfl | rfl | rfl <;> decide
        have hnx : ser s (k + 1 - 4) = 10 * ser s (k - 4) + (bt s k - 48) := by
          obtain ⟨j, rfl⟩ : ∃ j, k = 4 + j := ⟨k - 4, by omega⟩
          rw [show 4 + j + 1 - 4 = j + 1 by omega, show 4 + j - 4 = j by omega]
          rfl
        have hb := bt_eq s k (by omega)
        obtain ⟨x, hx⟩ : ∃ x, ser s (k - 4) = x := ⟨_, rfl⟩
        have hw1 : IntKind.u8.wrap (bt s k - 48) = bt s k - 48 := IntWalk.u8_in _ (by omega)
        have hw2 : IntKind.i64.wrap (bt s k - 48) = bt s k - 48 := IntWalk.i64_in _ (by omega)
        have hw3 : IntKind.i64.wrap (10 * x) = 10 * x := IntWalk.i64_in _ (by omega)
        have hw4 : IntKind.i64.wrap (10 * x + (bt s k - 48)) = 10 * x + (bt s k - 48) := IntWalk.i64_in _ (by omega)
        have hw5 : IntKind.i64.wrap ((k : Int) + 1) = (k : Int) + 1 := IntWalk.i64_in _ (by omega)
        rw [hx] at hnx ⊢
        have Hnx := Lib.hid hnx
        clear hnx hx
        go_wp2_with (fail)
        exact ⟨⟨k + 1, by omega, by omega, by rw [Hnx.out], by go_num⟩, by simp [intOf]; omega⟩
      · obtain rfl : k = 10 := by omega
        go_wp2_with (fail)
        go_ret
        exact ⟨by rw [Hfin.out]; rfl, hb1⟩
end Go.Proofs.YtbchikfckfiklaaDoor
