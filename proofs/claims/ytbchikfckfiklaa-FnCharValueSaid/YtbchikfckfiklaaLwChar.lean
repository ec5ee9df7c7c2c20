/- The walk of the law FnCharValue. Conditions: that the code reads as bytes. -/
import Derived.Test.YtbchikfckfiklaaNumSpec
import Derived.Test.YtbchikfckfiklaaRd
namespace Go.Proofs.Ytbchikfckfiklaa
open Go.RowKit
set_option linter.unusedVariables false

def DrawS (w : World) (e : Ending) (w' : World) : Prop := ∃ s : ByteArray, e = .returned (.string s) ∧ Below w.heap.size w w'

set_option maxHeartbeats 1600000 in
theorem drawCharValue_any (A : Option Addr) (n c : Nat) (zs : List Int) (w : World) (h : IsRow .u8 w A n c zs) :
    Calls Try.prog 16 #[.slice A n c] w (DrawS w) := by
  have H := Lib.hid h
  clear h
  go_enter Try.func16, Try.ntmps16
  go_wp2_with (fail)
  refine (l20Open_any _ _ _ _ _ H.out).mono ?_
  rintro e w1 ⟨g, rfl, hr1, hb1⟩
  have hge := hr1.ge
  have hs1 := hb1.size
  have hl1 := hr1.lt
  go_wp2_with (fail)
  refine (pick_any _ _ _ _ _ hr1 (by omega)).mono ?_
  rintro e w2 ⟨x2, rfl, hx2, hy2, hr2, hg2⟩
  have hb2 := below_grown_step hg2 hb1 hge hs1
  have hs2 := hb2.size
  have hl2 := hr2.lt
  clear hr1 hg2 hb1 hy2
  by_cases hx : x2 = 0
  · subst hx
    go_wp2_with (fail)
    have ne2 : ¬ w2.heap.size = g := by omega
    refine (pick_any _ _ _ _ _ (hr2.alloc _) (by omega)).mono ?_
    rintro e w3 ⟨x3, rfl, hx3, hy3, hr3, hg3⟩
    obtain ⟨hc3, hf3⟩ := gcell hg3
    have hb3 : Below w.heap.size w w3 := below_grown_step hg3 (hb2.alloc hs2 _) hge (Nat.le_trans hs2 (by simp))
    have hz3 := hg3.size
    simp at hz3
    clear hg3 hr3 hr2 hf3
    rcases (show x3 = 0 ∨ x3 = 1 ∨ x3 = 2 ∨ x3 = 3 by omega) with rfl | rfl | rfl | rfl
    all_goals go_wp2_with (fail)
    all_goals go_ret
    all_goals exact ⟨_, rfl, hb3⟩
  · have hxb : (x2 == 0) = false := beq_eq_false_iff_ne.2 hx
    go_wp2_with (fail)
    refine (pick_any _ _ _ _ _ hr2 (by omega)).mono ?_
    rintro e w3 ⟨x3, rfl, hx3, hy3, hr3, hg3⟩
    have hb3 := below_grown_step hg3 hb2 hge hs2
    have hx36 : x3 < 36 := by omega
    obtain ⟨m, rfl⟩ := Int.eq_ofNat_of_zero_le hx3
    have hm : m < 36 := by omega
    clear hr2 hg3 hb2 hy3
    go_wp2_with (fail)
    go_ret
    exact ⟨_, rfl, hb3⟩

/-- the letters and the digits -/
def allS : ByteArray := { data := #[65, 66, 67, 68, 69, 70, 71, 72, 73, 74, 75, 76, 77, 78, 79, 80, 81, 82, 83, 84, 85, 86, 87, 88, 89, 90, 48, 49, 50, 51, 52, 53, 54, 55, 56, 57] }
theorem allS_in : ∀ k : Fin 36, inR (bt allS k.val) 48 57 = true ∨ inR (bt allS k.val) 65 90 = true := by decide +kernel
theorem cvb_set {c : Int} (h : 0 ≤ cvb c) : inR c 48 57 = true ∨ inR c 65 90 = true := by
  unfold cvb at h
  split at h
  · rename_i h1; exact .inl h1
  · split at h
    · rename_i h1; exact .inr h1
    · omega
theorem cvb_inj {a c : Int} (ha : inR a 48 57 = true ∨ inR a 65 90 = true) (hc : inR c 48 57 = true ∨ inR c 65 90 = true) (h : cvb a = cvb c) : a = c := by
  unfold cvb at h
  rcases ha with ha | ha <;> rcases hc with hc | hc
  · rw [if_pos ha, if_pos hc] at h; omega
  · have h1 := inR_iff.1 ha
    have h2 := inR_iff.1 hc
    rw [if_pos ha, if_neg (by simp [inR]; omega), if_pos hc] at h
    omega
  · have h1 := inR_iff.1 ha
    have h2 := inR_iff.1 hc
    rw [if_pos hc, if_neg (by simp [inR]; omega), if_pos ha] at h
    omega
  · have h1 := inR_iff.1 ha
    have h2 := inR_iff.1 hc
    rw [if_neg (by simp [inR]; omega), if_pos ha, if_neg (by simp [inR]; omega), if_pos hc] at h
    omega
theorem cvb_end {c : Int} (h : 0 ≤ cvb c) : cvb c ≤ 38 ∧ (cvb c < 10 ∨ cvb c % 11 ≠ 0) := by
  rcases cvb_set h with h1 | h1
  · have h2 := inR_iff.1 h1
    have : cvb c = c - 48 := by unfold cvb; rw [if_pos h1]
    omega
  · have h2 := inR_iff.1 h1
    have : cvb c = c - 55 + (c - 56) / 10 := by unfold cvb; rw [if_neg (by simp [inR]; omega), if_pos h1]
    omega
theorem one_eq (a s : ByteArray) (ha : a.size = 1) (hs : s.size = 1) : decide (a = s) = (bt a 0 == bt s 0) := by
  by_cases h : a = s
  · subst h; simp
  · have hne : ¬ bt a 0 = bt s 0 := by
      intro e
      apply h
      have h1 := bt_eq a 0 (by omega)
      have h2 := bt_eq s 0 (by omega)
      refine ByteArray.ext_getElem (by omega) ?_
      intro i h3 h4
      obtain rfl : i = 0 := by omega
      have : (a[0].toNat : Int) = (s[0].toNat : Int) := by rw [h1, h2, e]
      exact UInt8.toNat_inj.1 (by omega)
    rw [decide_eq_false h, beq_eq_false_iff_ne.2 hne]
theorem str_beq (x y : ByteArray) : (x.toList == y.toList) = decide (x = y) := by
  by_cases h : x = y
  · subst h; simp
  · have : x.toList ≠ y.toList := by
      intro e
      rw [ByteArray.toList_eq, ByteArray.toList_eq] at e
      exact h (ByteArray.ext (Array.toList_inj.mp e))
    rw [beq_eq_false_iff_ne.2 this, decide_eq_false h]
theorem char_key (s : ByteArray) (h : 0 ≤ cv s) (k : Nat) (hk : k < 36) : (cv (allS.extract k (k + 1)) == cv s) = ((allS.extract k (k + 1)).toList == s.toList) := by
  have hs : s.size = 1 := by
    unfold cv at h
    split at h
    · assumption
    · omega
  have e1 : (allS.extract k (k + 1)).size = 1 := by rw [ByteArray.size_extract]; have : allS.size = 36 := rfl; omega
  rw [str_beq, one_eq _ _ e1 hs, cv_one allS k (by have : allS.size = 36 := rfl; omega), bt_extract allS k (k + 1) 0 (by have : allS.size = 36 := rfl; omega) (by omega), Nat.add_zero]
  have hc : cv s = cvb (bt s 0) := by rw [cv, if_pos hs]
  rw [hc] at h ⊢
  have h1 := allS_in ⟨k, hk⟩
  have h2 := cvb_set h
  by_cases e : bt allS k = bt s 0
  · rw [e]; simp
  · have : ¬ cvb (bt allS k) = cvb (bt s 0) := fun e2 => e (cvb_inj h1 h2 e2)
    rw [beq_eq_false_iff_ne.2 e, beq_eq_false_iff_ne.2 this]
theorem cv_range (s : ByteArray) : -1 ≤ cv s ∧ (0 ≤ cv s → cv s ≤ 38 ∧ (cv s < 10 ∨ cv s % 11 ≠ 0)) := by
  unfold cv
  split
  · exact ⟨(cvb_range _).1, cvb_end⟩
  · exact ⟨by omega, by omega⟩

set_option maxHeartbeats 3200000 in
theorem fnCharValue_walk (A : Option Addr) (n c : Nat) (zs : List Int) (w : World) (h : IsRow .u8 w A n c zs) :
    Calls Try.prog 7 #[.slice A n c] w fun e w' => e = .returned (.bool true) ∧ Below w.heap.size w w' := by
  by_cases hn : 1048576 < n
  · have hn' : (1048576 : Int) < n := by omega
    clear h
    go_enter Try.func7, Try.ntmps7
    go_wp2_with (fail)
    go_ret
    exact ⟨rfl, (by repeat' (first | with_reducible exact Below.refl _ _ | with_reducible assumption | with_reducible refine bel_step (by with_reducible assumption) ?_ ?_ | with_reducible refine Below.drew ?_ | with_reducible refine below_drewN ?_ _ | with_reducible refine Below.alloc ?_ ?_ _ | with_reducible refine Below.setCell ?_ ?_ _ | (simp; done) | (simp; omega) | omega | with_reducible refine below_le (by with_reducible assumption) ?_))⟩
  · have hn' : (n : Int) ≤ 1048576 := by omega
    have H := Lib.hid h
    clear h hn
    go_enter Try.func7, Try.ntmps7
    go_wp2_with (fail)
    refine (drawCharValue_any _ _ _ _ _ H.out).mono ?_
    rintro e w1 ⟨s, rfl, hb1⟩
    have hkey := char_key s
    obtain ⟨hr1, hr2⟩ := cv_range s
    obtain ⟨x, hx⟩ : ∃ x, cv s = x := ⟨_, rfl⟩
    rw [hx] at hkey hr1 hr2
    have Hkey := Lib.hid hkey
    have Hr2 := Lib.hid hr2
    clear hkey hr2
    by_cases hx0 : x < 0
    · obtain rfl : x = -1 := by omega
      go_wp2_with (first
        | (go_at_call 11; refine (implCharValue_any _ _).mono ?_; rintro e w' ⟨rfl, rfl⟩; rw [hx])
        | (go_at_call 10; refine (specCharValue_any _ _).mono ?_; rintro e w' ⟨rfl, rfl⟩; rw [hx])
        | (go_at_call 17; refine (alive_any _).mono ?_; rintro e w' ⟨rfl, rfl⟩))
      go_ret
      exact ⟨rfl, hb1⟩
    · go_wp2_with (first
        | (go_at_call 11; refine (implCharValue_any _ _).mono ?_; rintro e w' ⟨rfl, rfl⟩; rw [hx])
        | (go_at_call 10; refine (specCharValue_any _ _).mono ?_; rintro e w' ⟨rfl, rfl⟩; rw [hx]))
      obtain ⟨hx38, hx11⟩ := Hr2.out (by omega)
      have hkey := Hkey.out (by omega)
      have HK := Lib.hid hkey
      clear hkey
      obtain ⟨m, rfl⟩ := Int.eq_ofNat_of_zero_le (show 0 ≤ x by omega)
      go_loopw [6] (fun i wr => ∃ k : Nat, k ≤ 36 ∧ i = .int .i64 k ∧ Below w.heap.size w wr) (fun i _ => 36 - (intOf i).toNat)
      case atStart => exact ⟨0, by omega, rfl, hb1⟩
      case round =>
        obtain ⟨k, hk, rfl, hbr⟩ := hrel
        by_cases hlt : k < 36
        · have hlt' : (k : Int) < 36 := by omega
          have hk0 : (0 : Int) ≤ k := by omega
          have hk1 : (0 : Int) ≤ (k : Int) + 1 := by omega
          have hk2 : (k : Int) + 1 ≤ 36 := by omega
          have hk3 : (k : Int) ≤ (k : Int) + 1 := by omega
          have hw1 : IntKind.i64.wrap ((k : Int) + 1) = (k : Int) + 1 := IntWalk.i64_in _ (by omega)
          have hk36 := HK.out k hlt
          unfold allS at hk36
          go_wp2_with (fail)
          go_quiet ((go_at_call 11; exact Calls.quiet_of_same (quiet_l (implCharValue_any _ _))))
          go_wp2
          all_goals exact ⟨⟨k + 1, by omega, by go_num, (by repeat' (first | with_reducible exact Below.refl _ _ | with_reducible assumption | with_reducible refine bel_step (by with_reducible assumption) ?_ ?_ | with_reducible refine Below.drew ?_ | with_reducible refine below_drewN ?_ _ | with_reducible refine Below.alloc ?_ ?_ _ | with_reducible refine Below.setCell ?_ ?_ _ | (simp; done) | (simp; omega) | omega | with_reducible refine below_le (by with_reducible assumption) ?_))⟩, by simp [intOf]; omega⟩
        · obtain rfl : k = 36 := by omega
          have hfin : (decide ((m : Int) < 10) || ((m : Int) % 11 != 0)) = true := by
            rcases hx11 with h | h
            · simp [h]
            · have : ((m : Int) % 11 != 0) = true := by rw [bne_iff_ne]; exact h
              rw [this]; simp
          go_wp2_with (fail)
          all_goals go_ret
          all_goals first
            | exact ⟨rfl, hbr⟩
            | exact ⟨ret_bool hfin, hbr⟩
end Go.Proofs.Ytbchikfckfiklaa
