/- What a changed digit, and two digits exchanged, do to the rest. Plain Lean. -/
import Derived.Test.YtbchikfckfiklaaDoorDrNum2
namespace Go.Proofs.YtbchikfckfiklaaDoor
open Go.RowKit
set_option linter.unusedVariables false

def cs (f : Nat → Int) : Nat → Int
  | 0 => 0
  | k + 1 => cs f k + cvb (f k) * 2 ^ k
theorem crSum_cs (s : ByteArray) (m : Nat) : crSum s m = cs (bt s) m := by
  induction m with
  | zero => rfl
  | succ m ih => rw [crSum, cs, ih]
theorem cs_one (f g : Nat → Int) (k : Nat) (h : ∀ i, i ≠ k → i < 10 → f i = g i) (m : Nat) (hm : m ≤ 10) :
    cs f m = cs g m + (if k < m then (cvb (f k) - cvb (g k)) * 2 ^ k else 0) := by
  induction m with
  | zero => simp [cs]
  | succ m ih =>
    have ih := ih (by omega)
    rw [cs, cs, ih]
    by_cases hk : m = k
    · subst hk
      rw [if_neg (by omega), if_pos (by omega), Int.sub_mul]
      omega
    · rw [h m hk (by omega)]
      by_cases hkm : k < m
      · rw [if_pos hkm, if_pos (by omega)]; omega
      · rw [if_neg hkm, if_neg (by omega)]; omega
theorem cs_two (f g : Nat → Int) (k : Nat) (hk : k < 9) (h : ∀ i, i ≠ k → i ≠ k + 1 → i < 10 → f i = g i) :
    cs f 10 = cs g 10 + (cvb (f k) - cvb (g k)) * 2 ^ k + (cvb (f (k + 1)) - cvb (g (k + 1))) * 2 ^ (k + 1) := by
  obtain ⟨g1, hg1⟩ : ∃ g1 : Nat → Int, g1 = fun i => if i = k then f k else g i := ⟨_, rfl⟩
  have e0 : g1 k = f k := by rw [hg1]; exact if_pos rfl
  have e1 : ∀ i, i ≠ k → g1 i = g i := fun i hi => by rw [hg1]; exact if_neg hi
  have h1 := cs_one f g1 (k + 1) (fun i hi h10 => by
    by_cases e : i = k
    · rw [e, e0]
    · rw [e1 i e]; exact h i e hi h10) 10 (Nat.le_refl _)
  have h2 := cs_one g1 g k (fun i hi h10 => e1 i hi) 10 (Nat.le_refl _)
  rw [if_pos (by omega), e1 (k + 1) (by omega)] at h1
  rw [if_pos (by omega), e0] at h2
  rw [h1, h2]
theorem crSum_one (y s : ByteArray) (k : Nat) (hk : k < 10) (h : ∀ i, i ≠ k → i < 10 → bt y i = bt s i) : crSum y 10 = crSum s 10 + (cvb (bt y k) - cvb (bt s k)) * 2 ^ k := by
  rw [crSum_cs, crSum_cs, cs_one (bt y) (bt s) k h 10 (Nat.le_refl _), if_pos hk]
theorem crSum_two (y s : ByteArray) (k : Nat) (hk : k < 9) (h : ∀ i, i ≠ k → i ≠ k + 1 → i < 10 → bt y i = bt s i) :
    crSum y 10 = crSum s 10 + (cvb (bt y k) - cvb (bt s k)) * 2 ^ k + (cvb (bt y (k + 1)) - cvb (bt s (k + 1))) * 2 ^ (k + 1) := by
  rw [crSum_cs, crSum_cs, cs_two (bt y) (bt s) k hk h]

theorem crOk_bt {s : ByteArray} (h : crOk s = true) : s.size = 10 ∧ (∀ i, 4 ≤ i → i < 10 → 48 ≤ bt s i ∧ bt s i ≤ 57) := by
  have hs : s.size = 10 := by
    simp only [crOk, Bool.and_eq_true, decide_eq_true_eq] at h
    exact h.1.1.1
  refine ⟨hs, fun i h4 hi => ?_⟩
  rw [crOk_form s hs] at h
  simp only [Bool.and_eq_true, frB, List.all_eq_true, List.mem_range] at h
  have := h.1 i hi
  rw [if_neg (by omega)] at this
  exact inR_iff.1 this
theorem crOk_same {s y : ByteArray} (h : crOk s = true) (hy : y.size = 10) (hb : ∀ i, i < 4 → bt y i = bt s i) (hd : ∀ i, 4 ≤ i → i < 10 → 48 ≤ bt y i ∧ bt y i ≤ 57) : crOk y = true := by
  have hs := (crOk_bt h).1
  rw [crOk_form s hs] at h
  rw [crOk_form y hy]
  simp only [Bool.and_eq_true, frB, List.all_eq_true, List.mem_range] at h ⊢
  refine ⟨fun i hi => ?_, by rw [hb 3 (by omega)]; exact h.2⟩
  by_cases h4 : i < 4
  · have := h.1 i hi
    rw [if_pos h4] at this ⊢
    rw [hb i h4]
    exact this
  · rw [if_neg h4]
    exact inR_yes (hd i (by omega) hi)
theorem ext_bt {x y : ByteArray} (hs : x.size = y.size) (h : ∀ i, i < x.size → bt x i = bt y i) : x = y := by
  refine ByteArray.ext_getElem hs ?_
  intro i h1 h2
  have := h i h1
  rw [← bt_eq x i h1, ← bt_eq y i h2] at this
  exact UInt8.toNat_inj.1 (by omega)
theorem cvb_dig {c : Int} (h : 48 ≤ c ∧ c ≤ 57) : cvb c = c - 48 := by rw [cvb, if_pos (inR_yes h)]
theorem mod_diff {a b : Int} (h : (b - a) % 11 ≠ 0) : ¬ b % 11 = a % 11 := by omega
theorem pow_mod (k : Nat) (hk : k < 10) (d : Int) (h0 : -9 ≤ d) (h1 : d ≤ 9) (hd : d ≠ 0) : (d * 2 ^ k) % 11 ≠ 0 := by
  have key : ∀ k : Fin 10, ∀ d : Fin 19, d.val ≠ 9 → (((d.val : Int) - 9) * 2 ^ k.val) % 11 ≠ 0 := by decide +kernel
  have this : ((((d + 9).toNat : Nat) : Int) - 9) * 2 ^ k % 11 ≠ 0 := key ⟨k, hk⟩ ⟨(d + 9).toNat, by omega⟩ (by show (d + 9).toNat ≠ 9; omega)
  rwa [show (((d + 9).toNat : Nat) : Int) - 9 = d by omega] at this

theorem str_beq' (x y : ByteArray) : (x.toList == y.toList) = decide (x = y) := by
  by_cases h : x = y
  · subst h; simp
  · have : x.toList ≠ y.toList := by
      intro e
      rw [ByteArray.toList_eq, ByteArray.toList_eq] at e
      exact h (ByteArray.ext (Array.toList_inj.mp e))
    rw [beq_eq_false_iff_ne.2 this, decide_eq_false h]
def D10 : ByteArray := { data := #[48, 49, 50, 51, 52, 53, 54, 55, 56, 57] }
theorem bt_D10 : ∀ d, d < 10 → bt (D10.extract d (d + 1)) 0 = 48 + (d : Int) ∧ (D10.extract d (d + 1)).size = 1 := by decide +kernel
def chg (s : ByteArray) (k d : Nat) : ByteArray := s.extract 0 k ++ D10.extract d (d + 1) ++ s.extract (k + 1) 10
theorem chg_size {s : ByteArray} (hs : s.size = 10) {k d : Nat} (hk : k < 10) (hd : d < 10) : (chg s k d).size = 10 := by
  have z0 : (s.extract 0 k).size = k := by rw [ByteArray.size_extract]; omega
  have z2 : (s.extract (k + 1) 10).size = 9 - k := by rw [ByteArray.size_extract]; omega
  rw [chg, ByteArray.size_append, ByteArray.size_append, z0, (bt_D10 d hd).2, z2]
  omega
theorem chg_bt {s : ByteArray} (hs : s.size = 10) {k d : Nat} (hk : k < 10) (hd : d < 10) (i : Nat) (hi : i < 10) : bt (chg s k d) i = if i = k then 48 + (d : Int) else bt s i := by
  have z0 : (s.extract 0 k).size = k := by rw [ByteArray.size_extract]; omega
  have z1 := (bt_D10 d hd).2
  rw [chg, bt_append, ByteArray.size_append, z0, z1, bt_append, z0]
  by_cases h1 : i < k
  · rw [if_pos (by omega), if_pos h1, if_neg (by omega), bt_extract s 0 k i (by omega) (by omega), Nat.zero_add]
  · by_cases h2 : i = k
    · subst h2
      rw [if_pos (by omega), if_neg (by omega), if_pos rfl, Nat.sub_self, (bt_D10 d hd).1]
    · rw [if_neg (by omega), if_neg h2, bt_extract s (k + 1) 10 _ (by omega) (by omega)]
      congr 1
      omega
theorem chg_key (s : ByteArray) (h : crOk s = true) (k d : Nat) (h4 : 4 ≤ k) (hk : k < 10) (hd : d < 10) : (crV (chg s k d) == crV s) = ((chg s k d).toList == s.toList) := by
  obtain ⟨hs, hdig⟩ := crOk_bt h
  have hz := chg_size hs hk hd
  have hok : crOk (chg s k d) = true := crOk_same h hz (fun i hi => by rw [chg_bt hs hk hd i (by omega), if_neg (by omega)]) (fun i h4' hi => by
    rw [chg_bt hs hk hd i hi]
    split
    · omega
    · exact hdig i h4' hi)
  have hk' := hdig k h4 hk
  have hsum := crSum_one (chg s k d) s k hk (fun i hik hi => by rw [chg_bt hs hk hd i hi, if_neg hik])
  rw [chg_bt hs hk hd k hk, if_pos rfl, cvb_dig (by omega), cvb_dig hk'] at hsum
  rw [str_beq', crV, crV, if_pos hok, if_pos h]
  by_cases e : bt s k = 48 + (d : Int)
  · have : chg s k d = s := ext_bt (by rw [hz, hs]) (fun i hi => by
      rw [hz] at hi
      rw [chg_bt hs hk hd i hi]
      split
      · rename_i e'; rw [e', e]
      · rfl)
    rw [this]
    simp
  · have hne : ¬ chg s k d = s := by
      intro e'
      have := chg_bt hs hk hd k hk
      rw [e', if_pos rfl] at this
      exact e this
    have hm := pow_mod k hk (48 + (d : Int) - 48 - (bt s k - 48)) (by omega) (by omega) (by omega)
    rw [decide_eq_false hne, beq_eq_false_iff_ne]
    exact mod_diff (by rw [hsum]; rwa [show ∀ a b : Int, a + b - a = b by omega])

def swp (s : ByteArray) (k : Nat) : ByteArray := s.extract 0 k ++ s.extract (k + 1) (k + 2) ++ s.extract k (k + 1) ++ s.extract (k + 2) 10
theorem swp_size {s : ByteArray} (hs : s.size = 10) {k : Nat} (hk : k < 9) : (swp s k).size = 10 := by
  have z0 : (s.extract 0 k).size = k := by rw [ByteArray.size_extract]; omega
  have z1 : (s.extract (k + 1) (k + 2)).size = 1 := by rw [ByteArray.size_extract]; omega
  have z2 : (s.extract k (k + 1)).size = 1 := by rw [ByteArray.size_extract]; omega
  have z3 : (s.extract (k + 2) 10).size = 8 - k := by rw [ByteArray.size_extract]; omega
  rw [swp, ByteArray.size_append, ByteArray.size_append, ByteArray.size_append, z0, z1, z2, z3]
  omega
theorem swp_bt {s : ByteArray} (hs : s.size = 10) {k : Nat} (hk : k < 9) (i : Nat) (hi : i < 10) : bt (swp s k) i = if i = k then bt s (k + 1) else if i = k + 1 then bt s k else bt s i := by
  have z0 : (s.extract 0 k).size = k := by rw [ByteArray.size_extract]; omega
  have z1 : (s.extract (k + 1) (k + 2)).size = 1 := by rw [ByteArray.size_extract]; omega
  have z2 : (s.extract k (k + 1)).size = 1 := by rw [ByteArray.size_extract]; omega
  rw [swp, bt_append, ByteArray.size_append, ByteArray.size_append, z0, z1, z2, bt_append, ByteArray.size_append, z0, z1, bt_append, z0]
  by_cases h1 : i < k
  · rw [if_pos (by omega), if_pos (by omega), if_pos h1, if_neg (by omega), if_neg (by omega), bt_extract s 0 k i (by omega) (by omega), Nat.zero_add]
  · by_cases h2 : i = k
    · subst h2
      rw [if_pos (by omega), if_pos (by omega), if_neg (by omega), if_pos rfl, Nat.sub_self, bt_extract s (i + 1) (i + 2) 0 (by omega) (by omega)]
    · by_cases h3 : i = k + 1
      · subst h3
        rw [if_pos (by omega), if_neg (by omega), if_neg (by omega), if_pos rfl, Nat.sub_self, bt_extract s k (k + 1) 0 (by omega) (by omega)]
        rfl
      · rw [if_neg (by omega), if_neg h2, if_neg h3, bt_extract s (k + 2) 10 _ (by omega) (by omega)]
        congr 1
        omega
theorem swp_key (s : ByteArray) (h : crOk s = true) (k : Nat) (h4 : 4 ≤ k) (hk : k < 9) (hne : bt s k ≠ bt s (k + 1)) : (crV (swp s k) == crV s) = false := by
  obtain ⟨hs, hdig⟩ := crOk_bt h
  have hz := swp_size hs hk
  have hok : crOk (swp s k) = true := crOk_same h hz (fun i hi => by rw [swp_bt hs hk i (by omega), if_neg (by omega), if_neg (by omega)]) (fun i h4' hi => by
    rw [swp_bt hs hk i hi]
    split
    · exact hdig _ (by omega) (by omega)
    · split
      · exact hdig _ (by omega) (by omega)
      · exact hdig i h4' hi)
  have ha := hdig k h4 (by omega)
  have hb := hdig (k + 1) (by omega) (by omega)
  have hsum := crSum_two (swp s k) s k hk (fun i h1 h2 hi => by rw [swp_bt hs hk i hi, if_neg h1, if_neg h2])
  rw [swp_bt hs hk k (by omega), if_pos rfl, swp_bt hs hk (k + 1) (by omega), if_neg (by omega), if_pos rfl, cvb_dig ha, cvb_dig hb, Int.pow_succ] at hsum
  rw [crV, crV, if_pos hok, if_pos h, beq_eq_false_iff_ne]
  have hm := pow_mod k (by omega) (bt s k - bt s (k + 1)) (by omega) (by omega) (by omega)
  refine mod_diff ?_
  rw [hsum]
  have e : crSum s 10 + (bt s (k + 1) - 48 - (bt s k - 48)) * 2 ^ k + (bt s k - 48 - (bt s (k + 1) - 48)) * (2 ^ k * 2) - crSum s 10 = (bt s k - bt s (k + 1)) * 2 ^ k := by
    rw [show bt s (k + 1) - 48 - (bt s k - 48) = bt s (k + 1) - bt s k by omega, show bt s k - 48 - (bt s (k + 1) - 48) = bt s k - bt s (k + 1) by omega, Int.sub_mul, Int.sub_mul, Int.sub_mul, ← Int.mul_assoc, ← Int.mul_assoc]
    omega
  rw [e]
  exact hm
end Go.Proofs.YtbchikfckfiklaaDoor
