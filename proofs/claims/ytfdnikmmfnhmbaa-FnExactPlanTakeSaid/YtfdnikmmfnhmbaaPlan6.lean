/- The two PlanTake. Conditions: that the slices read as lists. -/
import Derived.Test.YtfdnikmmfnhmbaaPlan5
namespace Go.Proofs.Ytfdnikmmfnhmbaa
open Go.RowKit
set_option linter.unusedVariables false

/-- there is a box above the slot m -/
def overB (t : Int) (xs : List Int) (m : Nat) : Bool := decide ((m : Int) % t < t - 1) && xs.getD (m + 1) 0 != 0
def canTake (b r t : Int) (bs : List Bx) (xs : List Int) (slot : Int) : Bool := planB b r t bs xs && inR slot 0 ((xs.length : Int) - 1) && (xs.getD slot.toNat 0 != 0) && !overB t xs slot.toNat
def takeX (b r t : Int) (bs : List Bx) (xs : List Int) (slot : Int) : List Int := if planB b r t bs xs then (if canTake b r t bs xs slot then xs.set slot.toNat 0 else xs) else []
def takeY (b r t : Int) (bs : List Bx) (xs : List Int) (slot : Int) : Int := if canTake b r t bs xs slot then xs.getD slot.toNat 0 else -1

theorem hasB_mem (xs : List Int) (x : Int) : hasB xs x = true ↔ x ∈ xs := by simp [hasB]
theorem hasB_set {xs : List Int} {m : Nat} {x : Int} (h : hasB xs x = false) (hx : x ≠ 0) : hasB (xs.set m 0) x = false := by
  cases e : hasB (xs.set m 0) x with
  | false => rfl
  | true =>
    rw [hasB_mem] at e
    rcases List.mem_or_eq_of_mem_set e with e | e
    · rw [← hasB_mem, h] at e; cases e
    · exact absurd e hx
theorem getD_set (xs : List Int) (m i : Nat) (hm : m < xs.length) : (xs.set m 0).getD i 0 = if m = i then 0 else xs.getD i 0 := by
  by_cases h : m = i
  · subst h; simp [List.getD, hm]
  · rw [if_neg h]; simp [List.getD, h]
theorem emod_succ {m t : Int} (hm : 0 ≤ m) (ht : 1 ≤ t) : 0 < (m + 1) % t ↔ m % t < t - 1 := by
  have h0 := Int.emod_nonneg m (show t ≠ 0 by omega)
  have h1 := Int.emod_lt_of_pos m (show 0 < t by omega)
  have e : (m + 1) % t = (m % t + 1) % t := by rw [Int.add_emod, Int.add_emod (m % t) 1 t, Int.emod_emod_of_dvd m (Int.dvd_refl t)]
  by_cases h : m % t < t - 1
  · have : (m % t + 1) % t = m % t + 1 := Int.emod_eq_of_lt (by omega) (by omega)
    rw [e, this]
    constructor
    · intro _; exact h
    · intro _; omega
  · have h2 : m % t + 1 = t := by omega
    rw [e, h2, Int.emod_self]
    constructor
    · intro h3; omega
    · intro h3; exact absurd h3 h
/-- a plan without the box in a slot is one iff there is no box above it -/
theorem planB_set {b r t : Int} {bs : List Bx} {xs : List Int} (h : planB b r t bs xs = true) {m : Nat} (hm : m < xs.length) (hx : xs.getD m 0 ≠ 0) : planB b r t bs (xs.set m 0) = !overB t xs m := by
  obtain ⟨hh, hN⟩ := planB_hull h
  obtain ⟨_, _, ht1, _⟩ := hullB_iff.1 hh
  have hb : boxesB bs = true := by
    simp only [planB, Bool.and_eq_true] at h
    exact h.1.1.2
  cases ho : overB t xs m with
  | true =>
    simp only [overB, Bool.and_eq_true, decide_eq_true_eq] at ho
    obtain ⟨h1, h2⟩ := ho
    have h2' : xs.getD (m + 1) 0 ≠ 0 := by simpa using h2
    have hlt : m + 1 < xs.length := by
      rcases Nat.lt_or_ge (m + 1) xs.length with h3 | h3
      · exact h3
      · exfalso; apply h2'; simp [List.getD, List.getElem?_eq_none h3]
    cases e : planB b r t bs (xs.set m 0) with
    | false => rfl
    | true =>
      have := planB_at e (k := m + 1) (by simpa using hlt)
      rw [okAt, getD_set _ _ _ hm, if_neg (by omega)] at this
      have h3 : (xs.getD (m + 1) 0 == 0) = false := beq_eq_false_iff_ne.2 h2'
      rw [h3, Bool.false_or] at this
      simp only [Bool.and_eq_true] at this
      have h4 := this.2
      rw [show m + 1 - 1 = m by omega, getD_set _ _ _ hm, if_pos rfl] at h4
      have h5 : 0 < ((m + 1 : Nat) : Int) % t := by
        have := (emod_succ (m := (m : Int)) (by omega) ht1).2 h1
        simpa using this
      rw [decide_eq_true h5] at h4
      simp at h4
  | false =>
    have hl : (xs.set m 0).length = xs.length := by simp
    simp only [planB, hh, hb, hl, Bool.true_and, Bool.not_false, Bool.and_eq_true, decide_eq_true_eq]
    refine ⟨hN.symm, ?_⟩
    simp only [okP, List.all_eq_true, List.mem_range]
    intro i hi
    have hi' := planB_at h hi
    rw [okAt, getD_set _ _ _ hm]
    by_cases hmi : m = i
    · rw [if_pos hmi]; rfl
    · rw [if_neg hmi]
      rw [okAt] at hi'
      by_cases h0 : xs.getD i 0 = 0
      · rw [h0]; rfl
      · have h0b : (xs.getD i 0 == 0) = false := beq_eq_false_iff_ne.2 h0
        rw [h0b, Bool.false_or] at hi' ⊢
        simp only [Bool.and_eq_true] at hi' ⊢
        obtain ⟨⟨a1, a2⟩, a3⟩ := hi'
        refine ⟨⟨a1, ?_⟩, ?_⟩
        · rw [List.take_set]
          have a2' : hasB (xs.take i) (xs.getD i 0) = false := by simpa using a2
          rw [hasB_set a2' h0]; rfl
        · rw [getD_set _ _ _ hm]
          by_cases h1 : m = i - 1
          · rw [if_pos h1]
            by_cases hi0 : i = 0
            · subst hi0; simp
            · have him : i = m + 1 := by omega
              subst him
              have hov : ¬ (m : Int) % t < t - 1 := by
                intro hlt
                have h2 : (xs.getD (m + 1) 0 != 0) = true := by rw [bne_iff_ne]; exact h0
                rw [overB, decide_eq_true hlt, h2] at ho
                cases ho
              have h5 : ¬ 0 < ((m + 1 : Nat) : Int) % t := by
                intro h6
                exact hov ((emod_succ (m := (m : Int)) (by omega) ht1).1 (by simpa using h6))
              rw [decide_eq_false h5]; rfl
          · rw [if_neg h1]; exact a3
end Go.Proofs.Ytfdnikmmfnhmbaa
