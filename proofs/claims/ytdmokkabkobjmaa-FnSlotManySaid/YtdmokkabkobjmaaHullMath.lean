/- Plain arithmetic of slots and places, no program in sight: a slot tells its place, a place tells its slot. Conditions: those in each statement. -/
import Derived.Test.YtdmokkabkobjmaaHull
namespace Go.Proofs.Ytdmokkabkobjmaa
set_option linter.unusedVariables false

theorem slot_bounds {b r t bay row tier : Int} (hb : 0 ≤ bay ∧ bay ≤ b - 1) (hr : 0 ≤ row ∧ row ≤ r - 1) (ht : 0 ≤ tier ∧ tier ≤ t - 1) :
    0 ≤ (bay * r + row) * t + tier ∧ (bay * r + row) * t + tier ≤ b * r * t - 1 := by
  have a1 : (bay + 1) * r ≤ b * r := Int.mul_le_mul_of_nonneg_right (by omega) (by omega)
  have a2 : (bay + 1) * r = bay * r + r := by rw [Int.add_mul]; omega
  have a0 : 0 ≤ bay * r := Int.mul_nonneg (by omega) (by omega)
  have b1 : (bay * r + row + 1) * t ≤ b * r * t := Int.mul_le_mul_of_nonneg_right (by omega) (by omega)
  have b2 : (bay * r + row + 1) * t = (bay * r + row) * t + t := by rw [Int.add_mul]; omega
  have b0 : 0 ≤ (bay * r + row) * t := Int.mul_nonneg (by omega) (by omega)
  omega
theorem slot_mod {X t tier : Int} (ht : 0 ≤ tier ∧ tier ≤ t - 1) : (X * t + tier) % t = tier := by
  rw [Int.add_comm, Int.add_mul_emod_self_right]
  exact Int.emod_eq_of_lt ht.1 (by omega)
theorem slot_div {X t tier : Int} (ht : 0 ≤ tier ∧ tier ≤ t - 1) : (X * t + tier) / t = X := by
  rw [Int.add_comm, Int.add_mul_ediv_right _ _ (by omega), Int.ediv_eq_zero_of_lt ht.1 (by omega)]
  omega

theorem slotOfV_neg (b r t bay row tier : Int) : (slotOfV b r t bay row tier = -1) ∨ (0 ≤ slotOfV b r t bay row tier ∧
    placeB b r t (slotOfV b r t bay row tier) = bay ∧ placeR b r t (slotOfV b r t bay row tier) = row ∧ placeT b r t (slotOfV b r t bay row tier) = tier ∧ slotOfV b r t bay row tier < slotManyV b r t) := by
  cases h : (hullB b r t && inR bay 0 (b - 1) && inR row 0 (r - 1) && inR tier 0 (t - 1)) with
  | false => left; simp [slotOfV, h]
  | true =>
    right
    have e : slotOfV b r t bay row tier = (bay * r + row) * t + tier := by simp [slotOfV, h]
    simp only [Bool.and_eq_true] at h
    obtain ⟨⟨⟨hh, h1⟩, h2⟩, h3⟩ := h
    have g1 := inR_iff.1 h1
    have g2 := inR_iff.1 h2
    have g3 := inR_iff.1 h3
    obtain ⟨s0, s1⟩ := slot_bounds (b := b) g1 g2 g3
    have hs : inR ((bay * r + row) * t + tier) 0 (b * r * t - 1) = true := inR_yes ⟨s0, s1⟩
    have m : slotManyV b r t = b * r * t := by simp [slotManyV, hh]
    rw [e, m]
    refine ⟨s0, ?_, ?_, ?_, by omega⟩
    · simp only [placeB, placeOk, hh, hs, Bool.and_self, if_true, slot_div g3, slot_div g2]
    · simp only [placeR, placeOk, hh, hs, Bool.and_self, if_true, slot_div g3, slot_mod g2]
    · simp only [placeT, placeOk, hh, hs, Bool.and_self, if_true, slot_mod g3]

theorem place_slot (b r t slot : Int) : (placeOk b r t slot = false ∧ placeB b r t slot = -1 ∧ placeR b r t slot = -1 ∧ placeT b r t slot = -1) ∨
    (placeOk b r t slot = true ∧ 0 ≤ placeB b r t slot ∧ 0 ≤ placeR b r t slot ∧ 0 ≤ placeT b r t slot ∧ slotOfV b r t (placeB b r t slot) (placeR b r t slot) (placeT b r t slot) = slot) := by
  cases h : placeOk b r t slot with
  | false => left; simp [placeB, placeR, placeT, h]
  | true =>
    right
    have h' := h
    simp only [placeOk, Bool.and_eq_true] at h'
    obtain ⟨hh, hs⟩ := h'
    obtain ⟨⟨hb, hb'⟩, ⟨hr, hr'⟩, ht, ht'⟩ := hullB_iff.1 hh
    obtain ⟨s0, s1⟩ := inR_iff.1 hs
    have e0 : slot / t * t + slot % t = slot := by have := Int.mul_ediv_add_emod slot t; rw [Int.mul_comm]; exact this
    have e1 : slot / t / r * r + slot / t % r = slot / t := by have := Int.mul_ediv_add_emod (slot / t) r; rw [Int.mul_comm]; exact this
    have m0 := Int.emod_nonneg slot (show t ≠ 0 by omega)
    have m1 := Int.emod_lt_of_pos slot (show 0 < t by omega)
    have n0 := Int.emod_nonneg (slot / t) (show r ≠ 0 by omega)
    have n1 := Int.emod_lt_of_pos (slot / t) (show 0 < r by omega)
    have d0 : 0 ≤ slot / t := Int.ediv_nonneg s0 (by omega)
    have d1 : 0 ≤ slot / t / r := Int.ediv_nonneg d0 (by omega)
    have d2 : slot / t / r < b := by
      apply Int.ediv_lt_of_lt_mul (by omega)
      apply Int.ediv_lt_of_lt_mul (by omega)
      omega
    simp only [placeB, placeR, placeT, h, if_true]
    have g1 : inR (slot / t / r) 0 (b - 1) = true := inR_yes (by omega)
    have g2 : inR (slot / t % r) 0 (r - 1) = true := inR_yes (by omega)
    have g3 : inR (slot % t) 0 (t - 1) = true := inR_yes (by omega)
    refine ⟨trivial, d1, n0, m0, ?_⟩
    simp only [slotOfV, hh, g1, g2, g3, Bool.and_self, if_true, e1]
    exact e0

theorem below_place (b r t slot : Int) : (belowV b r t slot = -1 ∧ placeT b r t slot ≤ 0) ∨
    (0 ≤ belowV b r t slot ∧ placeB b r t (belowV b r t slot) = placeB b r t slot ∧ placeR b r t (belowV b r t slot) = placeR b r t slot ∧ placeT b r t (belowV b r t slot) = placeT b r t slot - 1) := by
  rw [← below_eq]
  rcases slotOfV_neg b r t (placeB b r t slot) (placeR b r t slot) (placeT b r t slot - 1) with h | ⟨h0, h1, h2, h3, _⟩
  · left
    refine ⟨h, ?_⟩
    rcases place_slot b r t slot with ⟨_, _, _, h3⟩ | ⟨hok, h0, h1, h2, h3⟩
    · omega
    · have hb := below_eq b r t slot
      rw [h] at hb
      simp only [belowV, hok, Bool.true_and] at hb
      simp only [placeT, hok, if_true]
      have hs : 0 ≤ slot := by
        simp only [placeOk, Bool.and_eq_true] at hok
        exact (inR_iff.1 hok.2).1
      by_cases hz : slot % t = 0
      · omega
      · rw [if_pos (by simpa using hz)] at hb
        have : slot = 0 := by omega
        subst this
        simp at hz
  · exact .inr ⟨h0, h1, h2, h3⟩

theorem many_place (b r t slot : Int) (h : 0 ≤ slotManyV b r t) : placeOk b r t slot = (decide (0 ≤ slot) && decide (slot < slotManyV b r t)) := by
  unfold slotManyV at h ⊢
  cases hh : hullB b r t with
  | false => rw [hh] at h; simp at h
  | true =>
    simp only [placeOk, hh, Bool.true_and, if_true, inR]
    congr 1
    rw [decide_eq_decide]
    omega
end Go.Proofs.Ytdmokkabkobjmaa
