/- The walk of the law FnYardFind. Conditions: that the code reads as bytes. -/
import Derived.Test.YteghialkkhmggaaLwStack
import Derived.Test.YteghialkkhmggaaDrYard2
import Derived.Test.YteghialkkhmggaaNum
namespace Go.Proofs.Yteghialkkhmggaa
open Go.RowKit
set_option linter.unusedVariables false

/-- in a valid yard a number is in one stack at most -/
theorem flatten_apart {sss : List (List Int)} (h : sss.flatten.Nodup) {i j : Nat} {x : Int} (hij : i < j) (hj : j < sss.length) (hi : hasB (sss.getD i []) x = true) : hasB (sss.getD j []) x = false := by
  cases e : hasB (sss.getD j []) x with
  | false => rfl
  | true =>
    have h1 := (upTo_prefix sss j (sss.getD j []).length hj).sublist
    have h2 := h.sublist h1
    rw [upTo, List.take_length, List.nodup_append] at h2
    have hx : x ∈ (sss.take j).flatten := by
      rw [List.mem_flatten]
      refine ⟨sss.getD i [], ?_, by simpa [hasB] using hi⟩
      have e1 : sss.getD i [] = sss[i]'(by omega) := by simp [List.getD, show i < sss.length by omega]
      rw [e1, List.mem_take_iff_getElem]
      exact ⟨i, by omega, rfl⟩
    exact absurd rfl (h2.2.2 x hx x (by simpa [hasB] using e))
theorem ixS_lt (l : List (List Int)) (x : Int) : ixS l x < l.length := by
  induction l with
  | nil => simp [ixS]
  | cons s l ih => simp only [ixS, List.length_cons]; split <;> (try split) <;> omega
theorem ixS_has (l : List (List Int)) (x : Int) (m : Nat) (h : ixS l x = m) : hasB (l.getD m []) x = true ∧ NoS l x m := by
  induction l generalizing m with
  | nil => simp [ixS] at h
  | cons s l ih =>
    simp only [ixS] at h
    cases h0 : hasB s x with
    | true =>
      rw [h0, if_pos rfl] at h
      obtain rfl : m = 0 := by omega
      exact ⟨h0, NoS.zero _ _⟩
    | false =>
      rw [h0, if_neg (by decide)] at h
      split at h
      · omega
      · obtain ⟨k, rfl⟩ : ∃ k, m = k + 1 := ⟨m - 1, by omega⟩
        obtain ⟨h1, h2⟩ := ih k (by omega)
        refine ⟨h1, fun j hj => ?_⟩
        cases j with
        | zero => exact h0
        | succ j => exact h2 j (by omega)
theorem ixS_no (l : List (List Int)) (x : Int) (h : ixS l x < 0) : NoS l x l.length := by
  induction l with
  | nil => exact fun j hj => absurd hj (by simp)
  | cons s l ih =>
    simp only [ixS] at h
    cases h0 : hasB s x with
    | true => rw [h0, if_pos rfl] at h; omega
    | false =>
      rw [h0, if_neg (by decide)] at h
      have : ixS l x < 0 := by
        split at h
        · assumption
        · omega
      intro j hj
      cases j with
      | zero => exact h0
      | succ j => exact ih this j (by simpa using hj)
theorem yard_one {hi : Int} {sss : List (List Int)} (h : yardB hi sss = true) (x : Int) (k : Nat) (hk : k < sss.length) : hasB (sss.getD k []) x = decide ((k : Int) = ixS sss x) := by
  simp only [yardB, Bool.and_eq_true, decide_eq_true_eq] at h
  by_cases hn : ixS sss x < 0
  · rw [ixS_no sss x hn k hk, decide_eq_false (by omega)]
  · obtain ⟨m, hm⟩ := Int.eq_ofNat_of_zero_le (show 0 ≤ ixS sss x by omega)
    obtain ⟨h1, h2⟩ := ixS_has sss x m hm
    have hlt := ixS_lt sss x
    rw [hm]
    rcases Nat.lt_trichotomy k m with hkm | rfl | hkm
    · rw [h2 k hkm, decide_eq_false (by omega)]
    · rw [h1, decide_eq_true rfl]
    · rw [flatten_apart h.2 hkm hk h1, decide_eq_false (by omega)]

set_option maxHeartbeats 1600000 in
theorem fnYardFind_walk (A : Option Addr) (n c : Nat) (zs : List Int) (w : World) (h : IsRow .u8 w A n c zs) :
    Calls Try.prog 9 #[.slice A n c] w fun e w' => e = .returned (.bool true) ∧ Below w.heap.size w w' := by
  by_cases hn : 1048576 < n
  · have hn' : (1048576 : Int) < n := by omega
    clear h
    go_enter Try.func9, Try.ntmps9
    go_wp2_with (fail)
    go_ret
    exact ⟨rfl, (by repeat' (first | with_reducible exact Below.refl _ _ | with_reducible assumption | with_reducible refine bel_step (by with_reducible assumption) ?_ ?_ | with_reducible refine Below.drew ?_ | with_reducible refine below_drewN ?_ _ | with_reducible refine Below.alloc ?_ ?_ _ | with_reducible refine Below.setCell ?_ ?_ _ | (simp; done) | (simp; omega) | omega | with_reducible refine below_le (by with_reducible assumption) ?_))⟩
  · have hn' : (n : Int) ≤ 1048576 := by omega
    have H := Lib.hid h
    clear h hn
    go_enter Try.func9, Try.ntmps9
    go_wp2_with (fail)
    refine (drawYardFind_any _ _ _ _ _ H.out).mono ?_
    rintro e w1 ⟨hi, x, A1, n1, c1, sss, rfl, hS, hn1, hb1⟩
    obtain ⟨A2, c2, e2, hI, _⟩ := hS.stk
    simp only [Value.slice.injEq, true_and] at e2
    obtain ⟨rfl, rfl⟩ := e2
    clear hS
    have hs1 := hb1.size
    have hl := hI.length
    obtain ⟨q, hq⟩ : ∃ q, findY hi sss x = q := ⟨_, rfl⟩
    have hyd : Yd (w1.alloc (.cells #[.int .i64 hi, .slice A1 n1 c1] 27)) w1.heap.size hi A1 n1 c1 := ⟨by simp, by go_simp, by go_simp⟩
    have hI := hI.alloc (.cells #[.int .i64 hi, .slice A1 n1 c1] 27)
    have hb1 := hb1.alloc hs1 (.cells #[.int .i64 hi, .slice A1 n1 c1] 27)
    have hs1 := hb1.size
    go_wp2_with (fail)
    refine (implYardFind_any _ _ _ _ _ _ _ hI).mono ?_
    rintro e w2 ⟨rfl, hb2⟩
    rw [hq]
    have hb3 := hb1.trans (hb2.mono hs1)
    have hs3 := hb3.size
    have hI3 := hI.below hb2
    have hyd3 := hyd.below hb2
    obtain ⟨y3, p0, p1⟩ := id hyd3
    clear hI hb1 hb2 hyd
    go_wp2_with (fail)
    refine (specYardFind_any _ _ _ _ _ _ _ hI3 (by omega)).mono ?_
    rintro e w4 ⟨rfl, hb4⟩
    rw [hq]
    have hb5 := hb3.trans (hb4.mono hs3)
    have hs5 := hb5.size
    have hI5 := hI3.below hb4
    have hyd5 := hyd3.below hb4
    clear hI3 hb3 hb4 hs3 hyd3 y3 p0 p1
    obtain ⟨y3, p0, p1⟩ := id hyd5
    go_wp2_with (fail)
    refine (specYardValid_any _ _ _ _ _ _ hI5 (by omega)).mono ?_
    rintro e w6 ⟨rfl, hb6⟩
    have hb7 := hb5.trans (hb6.mono hs5)
    have hs7 := hb7.size
    have hI7 := hI5.below hb6
    have hyd7 := hyd5.below hb6
    clear hI5 hb5 hb6 hs5 hyd5 y3 p0 p1
    cases hv : yardB hi sss with
    | false =>
      obtain rfl : q = -1 := by rw [← hq, findY, hv]; rfl
      go_wp2_with (go_at_call 31; refine (alive_any _).mono ?_; rintro e w' ⟨rfl, rfl⟩)
      go_ret
      exact ⟨rfl, hb7⟩
    | true =>
      rw [findY, if_pos hv] at hq
      have hone := yard_one hv x
      rw [hq, hl] at hone
      have Hone := Lib.hid hone
      have HI7 := Lib.hid hI7
      have Hyd7 := Lib.hid hyd7
      obtain ⟨y3, p0, p1⟩ := id hyd7
      clear hone hq hI7 hyd7
      obtain ⟨Y, hY⟩ : ∃ Y, w1.heap.size = Y := ⟨_, rfl⟩
      rw [hY] at p0 p1 y3
      go_wp2_with (fail)
      go_loop [6] (fun i => ∃ k : Nat, k ≤ n1 ∧ i = .int .i64 k) (fun i => n1 - (intOf i).toNat)
      case atStart => exact ⟨0, by omega, rfl⟩
      case round =>
        obtain ⟨k, hk, rfl⟩ := hrel
        by_cases hlt : k < n1
        · have hlt' : (k : Int) < n1 := by omega
          have hk0 : (0 : Int) ≤ k := by omega
          obtain ⟨b, off, Ai, ni, ci, hA, hb, hc, hz⟩ := HI7.out.at_ hlt
          subst hA
          have hh : hasB (sss.getD k []) x = ((k : Int) == q) := by rw [Hone.out k hlt]; by_cases e : (k : Int) = q <;> simp [e]
          have Hh := Lib.hid hh
          clear hh
          go_wp2_with (go_at_call 33; refine (hasInt_any _ _ _ _ _ _ hz).mono ?_; rintro e w' ⟨rfl, rfl⟩; rw [Hh.out])
          exact ⟨⟨k + 1, by omega, by go_num⟩, by simp [intOf]; omega⟩
        · obtain rfl : k = n1 := by omega
          go_wp2_with (fail)
          go_ret
          exact ⟨rfl, hb7⟩
end Go.Proofs.Yteghialkkhmggaa
