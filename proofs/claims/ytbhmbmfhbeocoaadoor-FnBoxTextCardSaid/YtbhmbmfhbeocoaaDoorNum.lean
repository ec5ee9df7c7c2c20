/- The contracts of the functions on numbers of containers that every law with alive() reaches: isDigit, isCapital, CharValue, ownerValid, CheckRest. Conditions: those in each statement. -/
import Derived.Test.YtbhmbmfhbeocoaaDoorProg
import Derived.Test.YtbhmbmfhbeocoaaDoorKit
import Derived.Test.YtbhmbmfhbeocoaaDoorShelf
import Derived.Lib.IndexBytes
namespace Go.Proofs.YtbhmbmfhbeocoaaDoor
open Go.RowKit
set_option linter.unusedVariables false

/-- byte i of a text as a number, 0 past its end -/
def bt (s : ByteArray) (i : Nat) : Int := ((s.data.toList.getD i 0).toNat : Int)
theorem bt_eq (s : ByteArray) (i : Nat) (h : i < s.size) : ((s[i]'h).toNat : Int) = bt s i := by
  have := Go.Lib.data_getElem? s i h
  simp [bt, List.getD, this]
theorem bt_range (s : ByteArray) (i : Nat) : 0 ≤ bt s i ∧ bt s i ≤ 255 := by
  unfold bt
  have := (s.data.toList.getD i 0).toNat_lt
  omega
theorem bt_extract (s : ByteArray) (i j k : Nat) (hj : j ≤ s.size) (h : i + k < j) : bt (s.extract i j) k = bt s (i + k) := by
  rw [← bt_eq _ _ (by simp; omega), ByteArray.getElem_extract, bt_eq]

def cvb (c : Int) : Int := if inR c 48 57 then c - 48 else if inR c 65 90 then c - 55 + (c - 56) / 10 else -1
theorem cvb_range (c : Int) : -1 ≤ cvb c ∧ cvb c ≤ 38 := by
  unfold cvb
  split
  · rename_i h; have := inR_iff.1 h; omega
  · split
    · rename_i h; have := inR_iff.1 h; omega
    · omega
def cv (s : ByteArray) : Int := if s.size = 1 then cvb (bt s 0) else -1

def ownB (s : ByteArray) : Bool := decide (s.size = 3) && inR (bt s 0) 65 90 && inR (bt s 1) 65 90 && inR (bt s 2) 65 90

set_option maxHeartbeats 400000 in
theorem isDigit_any (c : Int) (w : World) :
    Calls Tryd.prog 40 #[.int .u8 c] w fun e w' => e = .returned (.bool (inR c 48 57)) ∧ w = w' := by
  go_enter Tryd.func40, Tryd.ntmps40
  go_wp2
  all_goals
    go_ret
    exact ⟨ret_bool (by simp [inR] <;> omega), rfl⟩

set_option maxHeartbeats 400000 in
theorem isCapital_any (c : Int) (w : World) :
    Calls Tryd.prog 49 #[.int .u8 c] w fun e w' => e = .returned (.bool (inR c 65 90)) ∧ w = w' := by
  go_enter Tryd.func49, Tryd.ntmps49
  go_wp2
  all_goals
    go_ret
    exact ⟨ret_bool (by simp [inR] <;> omega), rfl⟩

set_option maxHeartbeats 400000 in
theorem implCharValue_any (s : ByteArray) (w : World) :
    Calls Tryd.prog 41 #[.string s] w fun e w' => e = .returned (.int .i64 (cv s)) ∧ w = w' := by
  by_cases hs : s.size = 1
  · have h0 : (0 : Nat) < s.size := by omega
    have e0 := bt_eq s 0 h0
    obtain ⟨r0, r1⟩ := bt_range s 0
    have hcv : cv s = cvb ((s[0]'h0).toNat : Int) := by simp [cv, hs, e0]
    have r2 : (0 : Int) ≤ ((s[0]'h0).toNat : Int) := by omega
    have r3 : ((s[0]'h0).toNat : Int) ≤ 255 := by rw [e0]; exact r1
    have Hcv := Lib.hid hcv
    clear hcv e0 r0 r1
    cases hd : inR ((s[0]'h0).toNat : Int) 48 57 with
    | true =>
      obtain ⟨d0, d1⟩ := inR_iff.1 hd
      have hfin : cvb ((s[0]'h0).toNat : Int) = ((s[0]'h0).toNat : Int) - 48 := by simp [cvb, hd]
      have Hfin := Lib.hid hfin
      clear hfin
      go_enter Tryd.func41, Tryd.ntmps41
      go_wp2_with (first
        | (go_at_call 40; refine (isDigit_any _ _).mono ?_; rintro e w' ⟨rfl, rfl⟩)
        | (go_at_call 49; refine (isCapital_any _ _).mono ?_; rintro e w' ⟨rfl, rfl⟩))
      go_ret
      exact ⟨ret_int (by rw [Hcv.out, Hfin.out]), rfl⟩
    | false =>
      cases hk : inR ((s[0]'h0).toNat : Int) 65 90 with
      | true =>
        obtain ⟨d0, d1⟩ := inR_iff.1 hk
        have hfin : cvb ((s[0]'h0).toNat : Int) = ((s[0]'h0).toNat : Int) - 55 + (((s[0]'h0).toNat : Int) - 56) / 10 := by simp [cvb, hd, hk]
        have Hfin := Lib.hid hfin
        clear hfin
        go_enter Tryd.func41, Tryd.ntmps41
        go_wp2_with (first
          | (go_at_call 40; refine (isDigit_any _ _).mono ?_; rintro e w' ⟨rfl, rfl⟩)
          | (go_at_call 49; refine (isCapital_any _ _).mono ?_; rintro e w' ⟨rfl, rfl⟩))
        go_ret
        exact ⟨ret_int (by rw [Hcv.out, Hfin.out]; omega), rfl⟩
      | false =>
        have hfin : cvb ((s[0]'h0).toNat : Int) = -1 := by simp [cvb, hd, hk]
        have Hfin := Lib.hid hfin
        clear hfin
        go_enter Tryd.func41, Tryd.ntmps41
        go_wp2_with (first
          | (go_at_call 40; refine (isDigit_any _ _).mono ?_; rintro e w' ⟨rfl, rfl⟩)
          | (go_at_call 49; refine (isCapital_any _ _).mono ?_; rintro e w' ⟨rfl, rfl⟩))
        go_ret
        exact ⟨ret_int (by rw [Hcv.out, Hfin.out]), rfl⟩
  · have hcv : cv s = -1 := by simp [cv, hs]
    have Hcv := Lib.hid hcv
    clear hcv
    go_enter Tryd.func41, Tryd.ntmps41
    go_wp2_with (fail)
    go_ret
    exact ⟨ret_int (by rw [Hcv.out]), rfl⟩

set_option maxHeartbeats 400000 in
theorem ownerValid_any (s : ByteArray) (w : World) :
    Calls Tryd.prog 38 #[.string s] w fun e w' => e = .returned (.bool (ownB s)) ∧ w = w' := by
  by_cases hs : s.size = 3
  · have e0 := bt_eq s 0 (by omega)
    have e1 := bt_eq s 1 (by omega)
    have e2 := bt_eq s 2 (by omega)
    have hfin : ownB s = (inR ((s[0]'(by omega)).toNat : Int) 65 90 && inR ((s[1]'(by omega)).toNat : Int) 65 90 && inR ((s[2]'(by omega)).toNat : Int) 65 90) := by simp [ownB, hs, e0, e1, e2]
    have Hfin := Lib.hid hfin
    clear hfin e0 e1 e2
    go_enter Tryd.func38, Tryd.ntmps38
    go_wp2_with (first
      | (go_at_call 49; refine (isCapital_any _ _).mono ?_; rintro e w' ⟨rfl, rfl⟩))
    all_goals go_ret
    all_goals exact ⟨ret_bool (by rw [Hfin.out]; simp [*]), rfl⟩
  · have hfin : ownB s = false := by simp [ownB, hs]
    have Hfin := Lib.hid hfin
    clear hfin
    go_enter Tryd.func38, Tryd.ntmps38
    go_wp2_with (fail)
    go_ret
    exact ⟨ret_bool (by rw [Hfin.out]), rfl⟩

def kindIx (c : Int) : Int := if c = 85 then 0 else if c = 74 then 1 else if c = 90 then 2 else -1
theorem kindIx_nat : ∀ n : Fin 256, Lib.indexByte [85, 74, 90] n.val.toUInt8 = kindIx (n.val : Int) := by decide +kernel
theorem kindIx_eq (c : Int) (h0 : 0 ≤ c) (h1 : c ≤ 255) : Lib.indexByte [85, 74, 90] c.toNat.toUInt8 = kindIx c := by
  have := kindIx_nat ⟨c.toNat, by omega⟩
  simpa [Int.toNat_of_nonneg h0] using this
theorem indexKind_any (c : Int) (w : World) (h0 : 0 ≤ c) (h1 : c ≤ 255) :
    Calls Tryd.prog 39 #[.string { data := #[85, 74, 90] }, .int .u8 c] w fun e w' => e = .returned (.int .i64 (kindIx c)) ∧ w = w' :=
  (Tryd.strings_IndexByte _ c w).mono fun e w' ⟨he, hw⟩ => ⟨by rw [he, ← kindIx_eq c h0 h1], hw.symm⟩

/-- the sum over the first k bytes -/
def crSum (s : ByteArray) : Nat → Int
  | 0 => 0
  | k + 1 => crSum s k + cvb (bt s k) * 2 ^ k
/-- the bytes from the fourth on, below k, are digits -/
def digB (s : ByteArray) (k : Nat) : Bool := (List.range k).all fun i => decide (i < 4) || inR (bt s i) 48 57
def crOk (s : ByteArray) : Bool := decide (s.size = 10) && ownB (s.extract 0 3) && decide (0 ≤ kindIx (bt s 3)) && digB s 10
def crV (s : ByteArray) : Int := if crOk s then crSum s 10 % 11 else -1

theorem digB_succ (s : ByteArray) (k : Nat) : digB s (k + 1) = (digB s k && (decide (k < 4) || inR (bt s k) 48 57)) := by
  simp [digB, List.range_succ]
theorem digB_le (s : ByteArray) (k n : Nat) (h : k ≤ n) (hn : digB s n = true) : digB s k = true := by
  simp only [digB, List.all_eq_true, List.mem_range] at hn ⊢
  exact fun x hx => hn x (by omega)

theorem cv_one (s : ByteArray) (k : Nat) (h : k < s.size) : cv (s.extract k (k + 1)) = cvb (bt s k) := by
  have e : (s.extract k (k + 1)).size = 1 := by rw [ByteArray.size_extract]; omega
  rw [cv, if_pos e, bt_extract s k (k + 1) 0 (by omega) (by omega)]; rfl

theorem crSum_range (s : ByteArray) (k : Nat) : -(2 ^ k : Int) ≤ crSum s k ∧ crSum s k ≤ 38 * 2 ^ k := by
  induction k with
  | zero => simp [crSum]
  | succ k ih =>
    obtain ⟨c0, c1⟩ := cvb_range (bt s k)
    have hp : (0 : Int) ≤ 2 ^ k := Int.le_of_lt (Int.pow_pos (by omega))
    have a := Int.mul_le_mul_of_nonneg_right c0 hp
    have b := Int.mul_le_mul_of_nonneg_right c1 hp
    rw [crSum, Int.pow_succ]
    omega
theorem two_pow_le (k : Nat) (h : k ≤ 10) : (1 : Int) ≤ 2 ^ k ∧ (2 : Int) ^ k ≤ 1024 := by
  have : ∀ k : Fin 11, (1 : Int) ≤ 2 ^ k.val ∧ (2 : Int) ^ k.val ≤ 1024 := by decide
  exact this ⟨k, by omega⟩
theorem term_range (s : ByteArray) (k : Nat) (h : k ≤ 10) : -1024 ≤ cvb (bt s k) * 2 ^ k ∧ cvb (bt s k) * 2 ^ k ≤ 38912 := by
  obtain ⟨c0, c1⟩ := cvb_range (bt s k)
  obtain ⟨p0, p1⟩ := two_pow_le k h
  have hp : (0 : Int) ≤ 2 ^ k := by omega
  have a := Int.mul_le_mul_of_nonneg_right c0 hp
  have b := Int.mul_le_mul_of_nonneg_right c1 hp
  omega
theorem cr_step (s : ByteArray) (k : Nat) (hk : k < 10) (hs : k < s.size) : wrap64 (crSum s k + wrap64 (cv (s.extract k (k + 1)) * 2 ^ k)) = crSum s (k + 1) := by
  rw [cv_one s k hs]
  obtain ⟨a0, a1⟩ := term_range s k (by omega)
  obtain ⟨b0, b1⟩ := crSum_range s k
  obtain ⟨p0, p1⟩ := two_pow_le k (by omega)
  have e1 : wrap64 (cvb (bt s k) * 2 ^ k) = cvb (bt s k) * 2 ^ k := IntWalk.wrap64_in _ ⟨by omega, by omega⟩
  rw [e1, IntWalk.wrap64_in _ ⟨by omega, by omega⟩, crSum]
theorem crSum10 (s : ByteArray) : -1024 ≤ crSum s 10 ∧ crSum s 10 ≤ 38912 := by
  have := crSum_range s 10
  omega

theorem kindIx_cvb (c : Int) (h : 0 ≤ kindIx c) : 0 ≤ cvb c := by
  unfold kindIx at h
  split at h
  · subst_vars; decide
  · split at h
    · subst_vars; decide
    · split at h
      · subst_vars; decide
      · omega
theorem crOk_cvb (s : ByteArray) (h : crOk s = true) (k : Nat) (hk : k < 10) : 0 ≤ cvb (bt s k) := by
  simp only [crOk, Bool.and_eq_true, decide_eq_true_eq] at h
  obtain ⟨⟨⟨hs, ho⟩, h3⟩, hd⟩ := h
  have cap : ∀ c : Int, inR c 65 90 = true → 0 ≤ cvb c := by
    intro c hc
    obtain ⟨a, b⟩ := inR_iff.1 hc
    have : inR c 48 57 = false := inR_no (by omega)
    simp only [cvb, this, hc]
    simp
    omega
  by_cases h4 : k < 4
  · simp only [ownB, Bool.and_eq_true] at ho
    obtain ⟨⟨⟨_, o0⟩, o1⟩, o2⟩ := ho
    rw [bt_extract s 0 3 _ (by omega) (by omega)] at o0 o1 o2
    by_cases e3 : k = 3
    · subst e3; exact kindIx_cvb _ h3
    · have : k = 0 ∨ k = 1 ∨ k = 2 := by omega
      rcases this with rfl | rfl | rfl
      · exact cap _ o0
      · exact cap _ o1
      · exact cap _ o2
  · simp only [digB, List.all_eq_true, List.mem_range] at hd
    have := hd k hk
    have hin : inR (bt s k) 48 57 = true := by simpa [h4] using this
    obtain ⟨a, b⟩ := inR_iff.1 hin
    simp only [cvb, hin, if_true]
    omega
theorem crSum_nonneg (s : ByteArray) (h : crOk s = true) (k : Nat) (hk : k ≤ 10) : 0 ≤ crSum s k := by
  induction k with
  | zero => simp [crSum]
  | succ k ih =>
    have a := ih (by omega)
    have b := crOk_cvb s h k (by omega)
    have p : (0 : Int) ≤ 2 ^ k := Int.le_of_lt (Int.pow_pos (by omega))
    have c := Int.mul_nonneg b p
    rw [crSum]; omega
theorem crV_range (s : ByteArray) : -1 ≤ crV s ∧ crV s ≤ 10 ∧ (crV s < 0 → crV s = -1) ∧ (0 ≤ crV s ↔ crOk s = true) := by
  unfold crV
  cases h : crOk s with
  | false => simp
  | true =>
    have := crSum_nonneg s h 10 (by omega)
    simp
    omega

set_option maxHeartbeats 800000 in
theorem implCheckRest_any (s : ByteArray) (w : World) :
    Calls Tryd.prog 31 #[.string s] w fun e w' => e = .returned (.int .i64 (crV s)) ∧ w = w' := by
  by_cases hs : s.size = 10
  · cases ho : ownB (s.extract 0 3) with
    | false =>
      have hfin : crV s = -1 := by simp [crV, crOk, ho]
      have Hfin := Lib.hid hfin
      clear hfin
      go_enter Tryd.func31, Tryd.ntmps31
      go_wp2_with (first
          | (go_at_call 38; refine (ownerValid_any _ _).mono ?_; rintro e w' ⟨rfl, rfl⟩))
      go_ret
      exact ⟨ret_int (by rw [Hfin.out]), rfl⟩
    | true =>
      have e3 := bt_eq s 3 (by omega)
      obtain ⟨r0, r1⟩ := bt_range s 3
      rw [← e3] at r1
      by_cases hk : kindIx ((s[3]'(by omega)).toNat : Int) < 0
      · have hfin : crV s = -1 := by
          have : ¬ 0 ≤ kindIx (bt s 3) := by rw [← e3]; omega
          simp [crV, crOk, this]
        have Hfin := Lib.hid hfin
        clear hfin e3 r0
        go_enter Tryd.func31, Tryd.ntmps31
        go_wp2_with (first
          | (go_at_call 38; refine (ownerValid_any _ _).mono ?_; rintro e w' ⟨rfl, rfl⟩)
          | (go_at_call 39; refine (indexKind_any _ _ (by omega) (by omega)).mono ?_; rintro e w' ⟨rfl, rfl⟩))
        go_ret
        exact ⟨ret_int (by rw [Hfin.out]), rfl⟩
      · have hyes : digB s 10 = true → crV s = crSum s 10 % 11 ∧ 0 ≤ crSum s 10 := by
          intro hd
          have : 0 ≤ kindIx (bt s 3) := by rw [← e3]; omega
          have hok : crOk s = true := by simp [crOk, this, hs, ho, hd]
          exact ⟨by simp [crV, hok], crSum_nonneg s hok 10 (by omega)⟩
        have hno : ∀ k, k < 10 → (decide (k < 4) || inR (bt s k) 48 57) = false → crV s = -1 := by
          intro k hk hd
          have : digB s 10 = false := by
            cases h : digB s 10 with
            | false => rfl
            | true =>
              have := digB_le s (k + 1) 10 (by omega) h
              rw [digB_succ, hd] at this
              simp at this
          simp [crV, crOk, this]
        have Hyes := Lib.hid hyes
        have Hno := Lib.hid hno
        clear hyes hno e3 r0
        go_enter Tryd.func31, Tryd.ntmps31
        go_wp2_with (first
          | (go_at_call 38; refine (ownerValid_any _ _).mono ?_; rintro e w' ⟨rfl, rfl⟩)
          | (go_at_call 39; refine (indexKind_any _ _ (by omega) (by omega)).mono ?_; rintro e w' ⟨rfl, rfl⟩))
        go_loop [3, 22] (fun sum c => ∃ k : Nat, k ≤ 10 ∧ c = .int .i64 k ∧ sum = .int .i64 (crSum s k) ∧ digB s k = true) (fun _ c => 10 - (intOf c).toNat)
        case atStart => exact ⟨0, by omega, rfl, rfl, rfl⟩
        case round =>
          obtain ⟨k, hk10, rfl, rfl, hd⟩ := hrel
          by_cases hlt : k < 10
          · have hlt' : (k : Int) < 10 := by omega
            have hks : k < s.size := by omega
            have ek := bt_eq s k hks
            have Hst := Lib.hid (cr_step s k hlt hks)
            have Hd := Lib.hid hd
            clear hd
            cases hdg : inR ((s[k]'hks).toNat : Int) 48 57 with
            | true =>
              have hd1 : digB s (k + 1) = true := by rw [digB_succ, Hd.out, ← ek, hdg]; simp
              have Hd1 := Lib.hid hd1
              clear hd1 ek
              go_wp2_with (first
                | (go_at_call 40; refine (isDigit_any _ _).mono ?_; rintro e w' ⟨rfl, rfl⟩)
                | (go_at_call 41; refine (implCharValue_any _ _).mono ?_; rintro e w' ⟨rfl, rfl⟩))
              all_goals exact ⟨⟨k + 1, by omega, by go_num, by rw [Hst.out], Hd1.out⟩, by simp [intOf]; omega⟩
            | false =>
              by_cases h3 : k < 4
              · have hd1 : digB s (k + 1) = true := by rw [digB_succ, Hd.out]; simp [h3]
                have Hd1 := Lib.hid hd1
                clear hd1 ek
                have h3' : (k : Int) ≤ 3 := by omega
                go_wp2_with (first
                  | (go_at_call 40; refine (isDigit_any _ _).mono ?_; rintro e w' ⟨rfl, rfl⟩)
                  | (go_at_call 41; refine (implCharValue_any _ _).mono ?_; rintro e w' ⟨rfl, rfl⟩))
                all_goals exact ⟨⟨k + 1, by omega, by go_num, by rw [Hst.out], Hd1.out⟩, by simp [intOf]; omega⟩
              · have h3' : (3 : Int) < (k : Int) := by omega
                have hfin : crV s = -1 := Hno.out k hlt (by rw [← ek, hdg]; simp [h3])
                have Hfin := Lib.hid hfin
                clear hfin ek
                go_wp2_with (first
                  | (go_at_call 40; refine (isDigit_any _ _).mono ?_; rintro e w' ⟨rfl, rfl⟩)
                  | (go_at_call 41; refine (implCharValue_any _ _).mono ?_; rintro e w' ⟨rfl, rfl⟩))
                go_ret
                exact ⟨ret_int (by rw [Hfin.out]), rfl⟩
          · obtain rfl : k = 10 := by omega
            obtain ⟨hfin, q0⟩ := Hyes.out hd
            have Hfin := Lib.hid hfin
            have Hd := Lib.hid hd
            clear hfin hd
            go_wp2_with (fail)
            go_ret
            exact ⟨ret_int (by rw [Hfin.out]), rfl⟩
  · have hfin : crV s = -1 := by simp [crV, crOk, hs]
    have Hfin := Lib.hid hfin
    clear hfin
    go_enter Tryd.func31, Tryd.ntmps31
    go_wp2_with (fail)
    go_ret
    exact ⟨ret_int (by rw [Hfin.out]), rfl⟩

theorem crV_one : crV { data := #[67, 83, 81, 85, 51, 48, 53, 52, 51, 56] } = 3 := by decide +kernel
theorem crV_none : crV ByteArray.empty = -1 := by decide +kernel
theorem crV_none' : crV { data := #[] } = -1 := by decide +kernel
set_option maxHeartbeats 400000 in
theorem alive_any (w : World) : Calls Tryd.prog 15 #[] w fun e w' => e = .returned (.bool true) ∧ w = w' := by
  go_enter Tryd.func15, Tryd.ntmps15
  go_wp2_with (first
    | (go_at_call 31; refine (implCheckRest_any _ _).mono ?_; rintro e w' ⟨rfl, rfl⟩; (try rw [crV_one]); (try rw [crV_none]); (try rw [crV_none'])))
  all_goals go_ret
  all_goals exact ⟨rfl, rfl⟩
end Go.Proofs.YtbhmbmfhbeocoaaDoor
