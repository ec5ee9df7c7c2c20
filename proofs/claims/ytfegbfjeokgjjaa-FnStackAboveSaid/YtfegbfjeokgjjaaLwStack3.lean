/- The walk of the law FnStackAbove. Conditions: that the code reads as bytes. -/
import Derived.Test.YtfegbfjeokgjjaaLwStack2
namespace Go.Proofs.Ytfegbfjeokgjjaa
open Go.RowKit
set_option linter.unusedVariables false

theorem above_no {xs : List Int} {high id : Int} (h : aboveV xs high id < 0) : aboveV xs high id = -1 ∧ (stackB xs high = false ∨ hasB xs id = false) := by
  have i1 := ixOf_lt xs id
  unfold aboveV at h ⊢
  split at h
  · rename_i h1
    simp only [Bool.and_eq_true, decide_eq_true_eq] at h1
    omega
  · rename_i h1
    refine ⟨by rw [if_neg h1], ?_⟩
    cases e : stackB xs high with
    | false => exact .inl rfl
    | true =>
      refine .inr ?_
      have h2 : decide (0 ≤ ixOf xs id) = false := by simpa [e] using h1
      rw [ixOf_mem] at h2
      exact h2
theorem above_yes {xs : List Int} {high id : Int} (h : 0 ≤ aboveV xs high id) : ∃ k : Nat, aboveV xs high id = k ∧ k < xs.length ∧ stackB xs high = true ∧ xs.getD (xs.length - 1 - k) 0 = id ∧ ∀ j, j < k → xs.getD (xs.length - 1 - j) 0 ≠ id := by
  have i1 := ixOf_lt xs id
  by_cases h1 : (stackB xs high && decide (0 ≤ ixOf xs id)) = true
  · have e : aboveV xs high id = (xs.length : Int) - 1 - ixOf xs id := by unfold aboveV; rw [if_pos h1]
    simp only [Bool.and_eq_true, decide_eq_true_eq] at h1
    obtain ⟨q, hq⟩ := Int.eq_ofNat_of_zero_le h1.2
    have hx : xs.getD q 0 = id := by
      have : ∀ (l : List Int) (q : Nat), ixOf l id = (q : Int) → l.getD q 0 = id := by
        intro l
        induction l with
        | nil => intro q hq; simp [ixOf] at hq
        | cons y l ih =>
          intro q hq
          simp only [ixOf] at hq
          split at hq
          · rename_i hy
            have : q = 0 := by omega
            subst this; simpa using hy
          · split at hq
            · omega
            · obtain ⟨p, rfl⟩ : ∃ p, q = p + 1 := ⟨q - 1, by omega⟩
              simpa using ih p (by omega)
      exact this xs q hq
    refine ⟨xs.length - 1 - q, by omega, by omega, h1.1, ?_, fun j hj => ?_⟩
    · rw [show xs.length - 1 - (xs.length - 1 - q) = q by omega]; exact hx
    · rw [← hx]
      exact fun e => stackB_distinct h1.1 (i := q) (j := xs.length - 1 - j) (by omega) (by omega) e.symm
  · have : aboveV xs high id = -1 := by unfold aboveV; rw [if_neg h1]
    omega
theorem take_at {xs : List Int} {high : Int} (h : stackB xs high = true) (j : Nat) (hj : j < xs.length) : takeV (xs.take (xs.length - j)) high = xs.getD (xs.length - 1 - j) 0 ∧ takeL (xs.take (xs.length - j)) high = xs.take (xs.length - (j + 1)) := by
  have hl : (xs.take (xs.length - j)).length = xs.length - j := by simp
  have ht : takeB (xs.take (xs.length - j)) high = true := by
    simp only [takeB, stackB_take h, Bool.true_and, decide_eq_true_eq, hl]; omega
  constructor
  · simp only [takeV, ht, if_true, hl]
    rw [getD_take (by omega), show xs.length - j - 1 = xs.length - 1 - j by omega]
  · simp only [takeL, ht, if_true, hl, List.take_take]
    congr 1; omega

set_option maxHeartbeats 1600000 in
theorem fnStackAbove_walk (A : Option Addr) (n c : Nat) (zs : List Int) (w : World) (h : IsRow .u8 w A n c zs) :
    Calls Try.prog 10 #[.slice A n c] w fun e w' => e = .returned (.bool true) ∧ Below w.heap.size w w' := by
  by_cases hn : 1048576 < n
  · have hn' : (1048576 : Int) < n := by omega
    clear h
    go_enter Try.func10, Try.ntmps10
    go_wp2_with (fail)
    go_ret
    exact ⟨rfl, (by repeat' (first | with_reducible exact Below.refl _ _ | with_reducible assumption | with_reducible refine bel_step (by with_reducible assumption) ?_ ?_ | with_reducible refine Below.drew ?_ | with_reducible refine below_drewN ?_ _ | with_reducible refine Below.alloc ?_ ?_ _ | with_reducible refine Below.setCell ?_ ?_ _ | (simp; done) | (simp; omega) | omega | with_reducible refine below_le (by with_reducible assumption) ?_))⟩
  · have hn' : (n : Int) ≤ 1048576 := by omega
    have H := Lib.hid h
    clear h hn
    go_enter Try.func10, Try.ntmps10
    go_wp2_with (fail)
    refine (drawStackAbove_any _ _ _ _ _ H.out).mono ?_
    rintro e w1 ⟨A1, n1, c1, xs, high, id, rfl, ho, hn1, hb1⟩
    have hs1 := hb1.size
    go_wp2_with (fail)
    refine (implStackAbove_any _ _ _ _ _ _ _ ho.ints).mono ?_
    rintro e w2 ⟨rfl, rfl⟩
    go_wp2_with (fail)
    refine (specStackAbove_any _ _ _ _ _ _ _ ho.ints).mono ?_
    rintro e w3 ⟨rfl, hb3'⟩
    have ho := ho.below hb3'
    have hb3 := hb1.trans (hb3'.mono hs1)
    have hs3 := hb3.size
    have hl := ho.ints.length
    clear hb1 hb3'
    by_cases hv : aboveV xs high id < 0
    · obtain ⟨k1, k2⟩ := above_no hv
      cases hs : stackB xs high with
      | false =>
        go_wp2_with (first
          | (go_at_call 13; refine (implStackValid_any _ _ _ _ _ _ ho.ints).mono ?_; rintro e w' ⟨rfl, rfl⟩; rw [hs])
          | (go_at_call 24; refine (alive_any _).mono ?_; rintro e w' ⟨rfl, rfl⟩))
        go_ret
        exact ⟨rfl, hb3⟩
      | true =>
        have k3 : hasB xs id = false := by rcases k2 with k2 | k2; (rw [hs] at k2; cases k2); exact k2
        go_wp2_with (first
          | (go_at_call 13; refine (implStackValid_any _ _ _ _ _ _ ho.ints).mono ?_; rintro e w' ⟨rfl, rfl⟩; rw [hs])
          | (go_at_call 29; refine (hasInt_any _ _ _ _ _ _ ho.ints).mono ?_; rintro e w' ⟨rfl, rfl⟩; rw [k3])
          | (go_at_call 24; refine (alive_any _).mono ?_; rintro e w' ⟨rfl, rfl⟩))
        go_ret
        exact ⟨rfl, hb3⟩
    · obtain ⟨K, k1, k2, k3, k4, k5⟩ := above_yes (show 0 ≤ aboveV xs high id by omega)

      go_wp2_with (first
        | (at_builtin; refine wpList_append_ints rfl _ _ rfl w.heap.size (.slice (some ⟨w3.heap.size, 0, none⟩) 0 0) 0 [] rfl (empty_row hs3) A1 n1 c1 xs rfl (ho.ints.alloc _) (by omega) (le_alloc hs3 _) ?_; intro v5 w5 hr5 hg5; rw [Nat.zero_add, List.nil_append] at hr5
           have hb5 : Below w.heap.size w w5 := below_append (hb3.alloc hs3 _) (empty_row hs3) hg5 (le_alloc hs3 _)
           obtain ⟨A5, c5, rfl, ho5⟩ := hr5.own
           clear hg5))
      have hx0 : xs.take (xs.length - 0) = xs := by simp
      go_loopw [7, 8] (fun v q wr => ∃ (j : Nat) (A' : Option Addr) (n' c' : Nat), v = .slice A' n' c' ∧ q = .int .i64 (j : Int) ∧ j ≤ K ∧ Own wr w.heap.size A' n' c' (xs.take (xs.length - j)) ∧ Below w.heap.size w wr) (fun _ q _ => K - (intOf q).toNat)
      case atStart => exact ⟨0, A5, n1, c5, rfl, rfl, by omega, by rw [hx0]; exact ho5, hb5⟩
      case round =>
        obtain ⟨j, A', n', c', rfl, rfl, hj, hoj, hbj⟩ := hrel
        have hsj := hbj.size
        have hnj := hoj.ints.length
        have hlj : n' ≤ 1048576 := by rw [List.length_take] at hnj; omega
        obtain ⟨t1, t2⟩ := take_at k3 j (by omega)
        by_cases hlt : j < K
        · have hlt' : (j : Int) < K := by omega
          have hne : (xs.getD (xs.length - 1 - j) 0 == id) = false := beq_eq_false_iff_ne.2 (k5 j hlt)
          obtain ⟨t, ht⟩ : ∃ t, xs.getD (xs.length - 1 - j) 0 = t := ⟨_, rfl⟩
          rw [ht] at hne t1
          go_wp2_with (go_at_call 20; refine (implStackTake_any _ _ _ _ _ _ hoj.ints hlj).mono ?_; rintro e w6 ⟨A6, n6, c6, rfl, ho6, hb6'⟩; rw [t2] at ho6; rw [t1]; have hb6 := hbj.trans (hb6'.mono hsj); have ho6 := ho6.less hsj)
          exact ⟨⟨j + 1, A6, n6, c6, rfl, by go_num, by omega, ho6, hb6⟩, by simp [intOf]; omega⟩
        · obtain rfl : j = K := by omega
          rw [k4] at t1
          go_wp2_with (go_at_call 20; refine (implStackTake_any _ _ _ _ _ _ hoj.ints hlj).mono ?_; rintro e w6 ⟨A6, n6, c6, rfl, ho6, hb6'⟩; rw [t1]; have hb6 := hbj.trans (hb6'.mono hsj))
          go_ret
          exact ⟨rfl, hb6⟩
end Go.Proofs.Ytfegbfjeokgjjaa
