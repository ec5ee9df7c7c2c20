/- The walks of the laws FnStackTake and FnStackPut. Conditions: that the code reads as bytes. -/
import Derived.Test.YtfegbfjeokgjjaaLwStack
import Derived.Test.YtfegbfjeokgjjaaDrStack2
import Derived.Test.YtfegbfjeokgjjaaNum
import Derived.Test.YtfegbfjeokgjjaaStack
namespace Go.Proofs.Ytfegbfjeokgjjaa
open Go.RowKit
set_option linter.unusedVariables false

theorem takeL_len' (xs : List Int) (high : Int) : (takeL xs high).length ≤ xs.length := by
  unfold takeL; split <;> simp <;> omega
theorem take_no {xs : List Int} {high : Int} (h : takeB xs high = false) : takeV xs high = -1 ∧ takeL xs high = [] := by simp [takeV, takeL, h]
theorem take_yes {xs : List Int} {high : Int} (h : takeB xs high = true) : 1 ≤ takeV xs high ∧ putOk (takeL xs high) high (takeV xs high) = true ∧ putL (takeL xs high) high (takeV xs high) = xs := by
  have h' := h
  simp only [takeB, Bool.and_eq_true, decide_eq_true_eq] at h'
  have h1 := last_split h'.2
  have h2 := stackB_take h'.1 (xs.length - 1)
  have h3 := stackB_range h'.1 (i := xs.length - 1) (by omega)
  simp only [takeV, takeL, putOk, putL, h, if_true]
  rw [h1, h2, h'.1]
  exact ⟨h3.1, rfl, rfl⟩
theorem put_yes {xs : List Int} {high id : Int} (h : putOk xs high id = true) : putL xs high id = xs ++ [id] ∧ stackB (xs ++ [id]) high = true ∧ takeL (xs ++ [id]) high = xs ∧ takeV (xs ++ [id]) high = id ∧ aboveV (xs ++ [id]) high id = 0 := by
  simp only [putOk, Bool.and_eq_true] at h
  have ht : takeB (xs ++ [id]) high = true := by simp [takeB, h.2]
  have hix : ixOf (xs ++ [id]) id = (xs.length : Nat) := ixOf_found _ _ xs.length (by simp) (getD_end _ _) (fun j hj => by
    have := has_not (stackB_new h.2) j hj
    simpa [List.getD, List.getElem?_append, hj] using this)
  refine ⟨by simp [putL, h.1, h.2], h.2, by simp [takeL, ht], ?_, ?_⟩
  · simp only [takeV, ht, if_true, List.length_append, List.length_singleton, Nat.add_sub_cancel]
    exact getD_end _ _
  · simp [aboveV, h.2, hix]
theorem put_no {xs : List Int} {high id : Int} (h : putOk xs high id = false) : putL xs high id = xs ∨ putL xs high id = [] := by
  simp only [putL]; split
  · split <;> simp_all [putOk]
  · exact .inr rfl

set_option maxHeartbeats 1600000 in
theorem fnStackTake_walk (A : Option Addr) (n c : Nat) (zs : List Int) (w : World) (h : IsRow .u8 w A n c zs) :
    Calls Try.prog 9 #[.slice A n c] w fun e w' => e = .returned (.bool true) ∧ Below w.heap.size w w' := by
  by_cases hn : 1048576 < n
  · have hn' : (1048576 : Int) < n := by omega
    clear h
    go_enter Try.func9, Try.ntmps9
    go_wp2_with (fail)
    go_ret
    exact ⟨rfl, (by repeat' (first | with_reducible exact Below.refl _ _ | with_reducible assumption | with_reducible refine bel_step (by with_reducible assumption) ?_ ?_ | with_reducible refine Below.drew ?_ | with_reducible refine below_drewN ?_ _ | with_reducible refine Below.alloc ?_ ?_ _ | with_reducible refine Below.setCell ?_ ?_ _ | (simp; done) | (simp; omega) | omega | with_reducible refine below_le (by with_reducible assumption) ?_))⟩
  · have hn' : (n : Int) ≤ 1048576 := by omega
    have H := Lib.hid h
    clear h hn
    go_enter Try.func9, Try.ntmps9
    go_wp2_with (fail)
    refine (drawStackTake_any _ _ _ _ _ H.out).mono ?_
    rintro e w1 ⟨A1, n1, c1, xs, high, rfl, ho, hn1, hb1⟩
    have hs1 := hb1.size
    go_wp2_with (fail)
    refine (implStackTake_any _ _ _ _ _ _ ho.ints (by omega)).mono ?_
    rintro e w2 ⟨A2, n2, c2, rfl, ho2, hb2'⟩
    have ho := ho.below hb2'
    have hb2 := hb1.trans (hb2'.mono hs1)
    have hs2 := hb2.size
    clear hb1 hb2'
    go_wp2_with (fail)
    refine (specStackTake_any _ _ _ _ _ _ ho.ints (by omega)).mono ?_
    rintro e w3 ⟨A3, n3, c3, rfl, ho3, hb3'⟩
    have ho := ho.below hb3'
    have ho2 := ho2.below hb3'
    have hb3 := hb2.trans (hb3'.mono hs2)
    have hs3 := hb3.size
    clear hb2 hb3'
    have he := eqL_self (takeL xs high)
    go_wp2_with (fail)
    refine (sameInts_any _ _ _ _ _ _ _ _ _ ho2.ints ho3.ints).mono ?_
    rintro e w4 ⟨rfl, hb4'⟩
    have ho := ho.below hb4'
    have ho2 := ho2.below hb4'
    have hb4 := hb3.trans (hb4'.mono hs3)
    have hs4 := hb4.size
    clear hb3 hb4' ho3
    cases ht : takeB xs high with
    | false =>
      obtain ⟨k1, k2⟩ := take_no ht
      rw [k2] at ho2
      have hl2 := ho2.ints.length
      simp at hl2
      subst hl2
      go_wp2_with (go_at_call 24; refine (alive_any _).mono ?_; rintro e w' ⟨rfl, rfl⟩)
      go_ret
      exact ⟨rfl, hb4⟩
    | true =>
      obtain ⟨k1, k2, k3⟩ := take_yes ht
      have k4 : ¬ takeV xs high < 0 := by omega
      have he2 := eqL_self xs
      have hl2 := ho2.ints.length
      have hl1 := ho.ints.length
      have hl3 := takeL_len' xs high
      go_wp2_with (first
        | (go_at_call 16; refine (implStackPut_any _ _ _ _ _ _ _ ho2.ints (by omega)).mono ?_; rintro e w5 ⟨A5, n5, c5, rfl, ho5, hb5'⟩; rw [k3] at ho5; rw [k2]
           have ho := ho.below hb5'
           have hb5 := hb4.trans (hb5'.mono hs4)
           have hs5 := hb5.size
           clear hb5')
        | (go_at_call 26; refine (sameInts_any _ _ _ _ _ _ _ _ _ ho5.ints ho.ints).mono ?_
           rintro e w6 ⟨rfl, hb6'⟩
           have hb6 := hb5.trans (hb6'.mono hs5)))
      go_ret
      exact ⟨rfl, hb6⟩
set_option maxHeartbeats 1600000 in
theorem fnStackPut_walk (A : Option Addr) (n c : Nat) (zs : List Int) (w : World) (h : IsRow .u8 w A n c zs) :
    Calls Try.prog 8 #[.slice A n c] w fun e w' => e = .returned (.bool true) ∧ Below w.heap.size w w' := by
  by_cases hn : 1048576 < n
  · have hn' : (1048576 : Int) < n := by omega
    clear h
    go_enter Try.func8, Try.ntmps8
    go_wp2_with (fail)
    go_ret
    exact ⟨rfl, (by repeat' (first | with_reducible exact Below.refl _ _ | with_reducible assumption | with_reducible refine bel_step (by with_reducible assumption) ?_ ?_ | with_reducible refine Below.drew ?_ | with_reducible refine below_drewN ?_ _ | with_reducible refine Below.alloc ?_ ?_ _ | with_reducible refine Below.setCell ?_ ?_ _ | (simp; done) | (simp; omega) | omega | with_reducible refine below_le (by with_reducible assumption) ?_))⟩
  · have hn' : (n : Int) ≤ 1048576 := by omega
    have H := Lib.hid h
    clear h hn
    go_enter Try.func8, Try.ntmps8
    go_wp2_with (fail)
    refine (drawStackPut_any _ _ _ _ _ H.out).mono ?_
    rintro e w1 ⟨A1, n1, c1, xs, high, id, rfl, ho, hn1, hb1⟩
    have hs1 := hb1.size
    go_wp2_with (fail)
    refine (implStackPut_any _ _ _ _ _ _ _ ho.ints (by omega)).mono ?_
    rintro e w2 ⟨A2, n2, c2, rfl, ho2, hb2'⟩
    have ho := ho.below hb2'
    have hb2 := hb1.trans (hb2'.mono hs1)
    have hs2 := hb2.size
    clear hb1 hb2'
    go_wp2_with (fail)
    refine (specStackPut_any _ _ _ _ _ _ _ ho.ints (by omega)).mono ?_
    rintro e w3 ⟨A3, n3, c3, rfl, ho3, hb3'⟩
    have ho := ho.below hb3'
    have ho2 := ho2.below hb3'
    have hb3 := hb2.trans (hb3'.mono hs2)
    have hs3 := hb3.size
    clear hb2 hb3'
    have he := eqL_self (putL xs high id)
    go_wp2_with (fail)
    refine (sameInts_any _ _ _ _ _ _ _ _ _ ho2.ints ho3.ints).mono ?_
    rintro e w4 ⟨rfl, hb4'⟩
    have ho := ho.below hb4'
    have ho2 := ho2.below hb4'
    have hb4 := hb3.trans (hb4'.mono hs3)
    have hs4 := hb4.size
    clear hb3 hb4' ho3
    have he2 := eqL_self xs
    have hl1 := ho.ints.length
    cases ht : putOk xs high id with
    | false =>
      rcases put_no ht with k | k
      · rw [k] at ho2
        go_wp2_with (first
          | (go_at_call 26; refine (sameInts_any _ _ _ _ _ _ _ _ _ ho2.ints ho.ints).mono ?_
             rintro e w6 ⟨rfl, hb6'⟩
             have hb6 := hb4.trans (hb6'.mono hs4))
          | (go_at_call 24; refine (alive_any _).mono ?_; rintro e w' ⟨rfl, rfl⟩))
        go_ret
        exact ⟨rfl, hb6⟩
      · rw [k] at ho2
        have hl2 := ho2.ints.length
        simp at hl2
        subst hl2
        cases hq : eqL [] xs with
        | false =>
          go_wp2_with (first
            | (go_at_call 26; refine (sameInts_any _ _ _ _ _ _ _ _ _ ho2.ints ho.ints).mono ?_
               rintro e w6 ⟨rfl, hb6'⟩
               have hb6 := hb4.trans (hb6'.mono hs4))
            | (go_at_call 24; refine (alive_any _).mono ?_; rintro e w' ⟨rfl, rfl⟩))
          go_ret
          exact ⟨rfl, hb6⟩
        | true =>
          go_wp2_with (first
            | (go_at_call 26; refine (sameInts_any _ _ _ _ _ _ _ _ _ ho2.ints ho.ints).mono ?_
               rintro e w6 ⟨rfl, hb6'⟩
               have hb6 := hb4.trans (hb6'.mono hs4))
            | (go_at_call 24; refine (alive_any _).mono ?_; rintro e w' ⟨rfl, rfl⟩))
          go_ret
          exact ⟨rfl, hb6⟩
    | true =>
      obtain ⟨k1, k2, k3, k4, k5⟩ := put_yes ht
      rw [k1] at ho2
      have he3 := eqL_self (xs ++ [id])
      have hl2 := ho2.ints.length
      simp at hl2
      go_wp2_with (first
        | (go_at_call 20; refine (implStackTake_any _ _ _ _ _ _ ho2.ints (by omega)).mono ?_; rintro e w5 ⟨A5, n5, c5, rfl, ho5, hb5'⟩; rw [k3] at ho5; rw [k4]
           have ho := ho.below hb5'
           have ho2 := ho2.below hb5'
           have hb5 := hb4.trans (hb5'.mono hs4)
           have hs5 := hb5.size
           clear hb5')
        | (go_at_call 26; refine (sameInts_any _ _ _ _ _ _ _ _ _ ho5.ints ho.ints).mono ?_
           rintro e w6 ⟨rfl, hb6'⟩
           have ho2 := ho2.below hb6'
           have hb6 := hb5.trans (hb6'.mono hs5))
        | (go_at_call 13; refine (implStackValid_any _ _ _ _ _ _ ho2.ints).mono ?_; rintro e w' ⟨rfl, rfl⟩; rw [k2])
        | (go_at_call 22; refine (implStackAbove_any _ _ _ _ _ _ _ ho2.ints).mono ?_; rintro e w' ⟨rfl, rfl⟩; rw [k5]))
      go_ret
      exact ⟨rfl, hb6⟩
end Go.Proofs.Ytfegbfjeokgjjaa
