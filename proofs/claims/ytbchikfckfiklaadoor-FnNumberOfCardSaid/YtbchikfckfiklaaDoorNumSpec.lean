/- The contracts of the reference's functions on numbers: CharValue, l1Form, CheckRest, NumberValid, and the program's NumberValid, checkDigit. Conditions: those in each statement. -/
import Derived.Test.YtbchikfckfiklaaDoorNum
namespace Go.Proofs.YtbchikfckfiklaaDoor
open Go.RowKit
set_option linter.unusedVariables false

set_option maxHeartbeats 400000 in
theorem specCharValue_any (s : ByteArray) (w : World) :
    Calls Tryd.prog 30 #[.string s] w fun e w' => e = .returned (.int .i64 (cv s)) ∧ w = w' := by
  by_cases hs : s.size = 1
  · have h0 : (0 : Nat) < s.size := by omega
    have e0 := bt_eq s 0 h0
    obtain ⟨r0, r1⟩ := bt_range s 0
    have hcv : cv s = cvb ((s[0]'h0).toNat : Int) := by simp [cv, hs, e0]
    have r2 : (0 : Int) ≤ ((s[0]'h0).toNat : Int) := by omega
    have r3 : ((s[0]'h0).toNat : Int) ≤ 255 := by rw [e0]; exact r1
    have Hcv := Lib.hid hcv
    clear hcv e0 r0 r1
    by_cases hd : (48 : Int) ≤ ((s[0]'h0).toNat : Int) ∧ ((s[0]'h0).toNat : Int) ≤ (57 : Int)
    · obtain ⟨d0, d1⟩ := hd
      have hfin : cvb ((s[0]'h0).toNat : Int) = ((s[0]'h0).toNat : Int) - 48 := by simp [cvb, inR_yes ⟨d0, d1⟩]
      have Hfin := Lib.hid hfin
      clear hfin
      go_enter Tryd.func30, Tryd.ntmps30
      go_wp2_with (fail)
      go_ret
      exact ⟨ret_int (by rw [Hcv.out, Hfin.out]), rfl⟩
    · by_cases hk : (65 : Int) ≤ ((s[0]'h0).toNat : Int) ∧ ((s[0]'h0).toNat : Int) ≤ 90
      · have hfin : cvb ((s[0]'h0).toNat : Int) = ((s[0]'h0).toNat : Int) - 55 + (((s[0]'h0).toNat : Int) - 56) / 10 := by simp [cvb, inR_no hd, inR_yes hk]
        obtain ⟨d0, d1⟩ := hk
        have d2 : (57 : Int) < ((s[0]'h0).toNat : Int) := by omega
        have d3 : (48 : Int) ≤ ((s[0]'h0).toNat : Int) := by omega
        have Hfin := Lib.hid hfin
        clear hfin hd
        go_enter Tryd.func30, Tryd.ntmps30
        go_wp2_with (fail)
        go_ret
        exact ⟨ret_int (by rw [Hcv.out, Hfin.out]; omega), rfl⟩
      · have hfin : cvb ((s[0]'h0).toNat : Int) = -1 := by simp [cvb, inR_no hd, inR_no hk]
        have Hd := Lib.hid hd
        have Hk := Lib.hid hk
        have Hfin := Lib.hid hfin
        clear hfin hd hk
        go_enter Tryd.func30, Tryd.ntmps30
        go_wp2_with (fail)
        all_goals go_ret
        all_goals first
          | (exfalso; have := Hd.out; have := Hk.out; omega)
          | exact ⟨ret_int (by rw [Hcv.out, Hfin.out]), rfl⟩
  · have hcv : cv s = -1 := by simp [cv, hs]
    have Hcv := Lib.hid hcv
    clear hcv
    go_enter Tryd.func30, Tryd.ntmps30
    go_wp2_with (fail)
    go_ret
    exact ⟨ret_int (by rw [Hcv.out]), rfl⟩

/-- the first k bytes have the form of a number's -/
def frB (s : ByteArray) (k : Nat) : Bool := (List.range k).all fun i => if i < 4 then inR (bt s i) 65 90 else inR (bt s i) 48 57
theorem frB_succ (s : ByteArray) (k : Nat) : frB s (k + 1) = (frB s k && (if k < 4 then inR (bt s k) 65 90 else inR (bt s k) 48 57)) := by
  simp [frB, List.range_succ]
theorem frB_le (s : ByteArray) (k n : Nat) (h : k ≤ n) (hn : frB s n = true) : frB s k = true := by
  simp only [frB, List.all_eq_true, List.mem_range] at hn ⊢
  exact fun x hx => hn x (by omega)
def k3B (c : Int) : Bool := c == 85 || c == 74 || c == 90
theorem k3B_ix (c : Int) : k3B c = decide (0 ≤ kindIx c) := by
  unfold k3B kindIx
  by_cases a : c = 85
  · simp [a]
  · by_cases b : c = 74
    · simp [b]
    · by_cases d : c = 90
      · simp [d]
      · simp [a, b, d]
theorem crOk_form (s : ByteArray) (hs : s.size = 10) : crOk s = (frB s 10 && k3B (bt s 3)) := by
  have e0 := bt_extract s 0 3 0 (by omega) (by omega)
  have e1 := bt_extract s 0 3 1 (by omega) (by omega)
  have e2 := bt_extract s 0 3 2 (by omega) (by omega)
  have es : (s.extract 0 3).size = 3 := by rw [ByteArray.size_extract]; omega
  rw [Bool.eq_iff_iff]
  simp only [crOk, ownB, hs, es, e0, e1, e2, k3B_ix, frB, digB, decide_true, Bool.true_and, Bool.and_eq_true, List.all_eq_true, List.mem_range, Nat.zero_add]
  constructor
  · rintro ⟨⟨⟨⟨a, b⟩, c⟩, d⟩, e⟩
    refine ⟨fun x hx => ?_, d⟩
    by_cases h4 : x < 4
    · rw [if_pos h4]
      have : x = 0 ∨ x = 1 ∨ x = 2 ∨ x = 3 := by omega
      rcases this with rfl | rfl | rfl | rfl
      · exact a
      · exact b
      · exact c
      · have d' : 0 ≤ kindIx (bt s 3) := by simpa using d
        unfold kindIx at d'
        split at d'
        · exact inR_yes (by omega)
        · split at d'
          · exact inR_yes (by omega)
          · split at d'
            · exact inR_yes (by omega)
            · omega
    · rw [if_neg h4]
      have := e x hx
      simpa [h4] using this
  · rintro ⟨a, d⟩
    have g (x : Nat) (hx : x < 10) (h4 : x < 4) : inR (bt s x) 65 90 = true := by have := a x hx; rwa [if_pos h4] at this
    refine ⟨⟨⟨⟨g 0 (by omega) (by omega), g 1 (by omega) (by omega)⟩, g 2 (by omega) (by omega)⟩, d⟩, fun x hx => ?_⟩
    by_cases h4 : x < 4
    · simp [h4]
    · have := a x hx
      rw [if_neg h4] at this
      simp [h4, this]

set_option maxHeartbeats 1600000 in
theorem l1Form_any (s : ByteArray) (w : World) :
    Calls Tryd.prog 29 #[.string s] w fun e w' => e = .returned (.bool (crOk s)) ∧ w = w' := by
  by_cases hs : s.size = 10
  · have Hf := Lib.hid (crOk_form s hs)
    go_enter Tryd.func29, Tryd.ntmps29
    go_wp2_with (fail)
    go_loop [3] (fun c => ∃ k : Nat, k ≤ 10 ∧ c = .int .i64 k ∧ frB s k = true) (fun c => 10 - (intOf c).toNat)
    case atStart => exact ⟨0, by omega, rfl, rfl⟩
    case round =>
      obtain ⟨k, hk10, rfl, hd⟩ := hrel
      by_cases hlt : k < 10
      · have hlt' : (k : Int) < 10 := by omega
        have hks : k < s.size := by omega
        have ek := bt_eq s k hks
        have hsu := frB_succ s k
        have hno : frB s (k + 1) = false → crOk s = false := by
          intro h
          rw [Hf.out]
          have : frB s 10 = false := by
            cases h' : frB s 10 with
            | false => rfl
            | true => rw [frB_le s (k + 1) 10 (by omega) h'] at h; cases h
          simp [this]
        rw [hd, Bool.true_and, ← ek] at hsu
        have Hno := Lib.hid hno
        clear hno hd ek
        have hcl : ((s[k]'hks).toNat : Int) < (48 : Int) ∨ ((48 : Int) ≤ ((s[k]'hks).toNat : Int) ∧ ((s[k]'hks).toNat : Int) ≤ (57 : Int)) ∨ ((57 : Int) < ((s[k]'hks).toNat : Int) ∧ ((s[k]'hks).toNat : Int) < (65 : Int)) ∨ ((65 : Int) ≤ ((s[k]'hks).toNat : Int) ∧ ((s[k]'hks).toNat : Int) ≤ (90 : Int)) ∨ (90 : Int) < ((s[k]'hks).toNat : Int) := by omega
        by_cases h4 : k < 4
        · have h4' : (k : Int) < 4 := by omega
          rw [if_pos h4] at hsu
          have Hsu := Lib.hid hsu
          clear hsu
          rcases hcl with hc | ⟨hc, hc'⟩ | ⟨hc, hc'⟩ | ⟨hc, hc'⟩ | hc
          all_goals go_wp2_with (fail)
          all_goals first
            | (exfalso; have hb := ‹(!decide _) = _›; simp at hb; omega)
            | exact ⟨⟨k + 1, by omega, by go_num, by rw [Hsu.out]; exact inR_yes (by omega)⟩, by simp [intOf]; omega⟩
            | (go_ret; exact ⟨ret_bool (by rw [Hno.out (by rw [Hsu.out]; exact inR_no (by omega))]), rfl⟩)
        · have h4' : (4 : Int) ≤ (k : Int) := by omega
          rw [if_neg h4] at hsu
          have Hsu := Lib.hid hsu
          clear hsu
          rcases hcl with hc | ⟨hc, hc'⟩ | ⟨hc, hc'⟩ | ⟨hc, hc'⟩ | hc
          all_goals go_wp2_with (fail)
          all_goals first
            | (exfalso; have hb := ‹(!decide _) = _›; simp at hb; omega)
            | exact ⟨⟨k + 1, by omega, by go_num, by rw [Hsu.out]; exact inR_yes (by omega)⟩, by simp [intOf]; omega⟩
            | (go_ret; exact ⟨ret_bool (by rw [Hno.out (by rw [Hsu.out]; exact inR_no (by omega))]), rfl⟩)
      · obtain rfl : k = 10 := by omega
        have hfin : crOk s = k3B ((s[3]'(by omega)).toNat : Int) := by rw [Hf.out, hd, bt_eq s 3 (by omega)]; rfl
        have Hfin := Lib.hid hfin
        clear hfin hd
        go_wp2_with (fail)
        all_goals go_ret
        all_goals exact ⟨ret_bool (by rw [Hfin.out]; simp [k3B, *]), rfl⟩
  · have hfin : crOk s = false := by simp [crOk, hs]
    have Hfin := Lib.hid hfin
    clear hfin
    go_enter Tryd.func29, Tryd.ntmps29
    go_wp2_with (fail)
    go_ret
    exact ⟨ret_bool (by rw [Hfin.out]), rfl⟩
end Go.Proofs.YtbchikfckfiklaaDoor
