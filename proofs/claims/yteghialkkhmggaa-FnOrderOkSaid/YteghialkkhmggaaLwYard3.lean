/- The walk of the law FnOrderOk. Conditions: that the code reads as bytes. -/
import Derived.Test.YteghialkkhmggaaLwYard1
import Derived.Test.YteghialkkhmggaaDrYard3
import Derived.Test.YteghialkkhmggaaYardB2
namespace Go.Proofs.Yteghialkkhmggaa
open Go.RowKit
set_option linter.unusedVariables false

theorem ordP_iff (sss : List (List Int)) (xs : List Int) (k : Nat) : ordP sss xs k = true ↔ ∀ i, i < k → 0 ≤ ixS sss (xs.getD i 0) ∧ hasB (xs.take i) (xs.getD i 0) = false := by
  simp [ordP, List.all_eq_true]
theorem getD_take' {xs : List Int} {m i : Nat} (h : i < m) : (xs.take m).getD i 0 = xs.getD i 0 := by simp [List.getD, h]
theorem ordB_take {hi : Int} {sss : List (List Int)} {xs : List Int} (h : ordB hi sss xs = true) (m : Nat) : ordB hi sss (xs.take m) = true := by
  simp only [ordB, Bool.and_eq_true] at h ⊢
  refine ⟨h.1, ?_⟩
  have h1 := (ordP_iff _ _ _).1 h.2
  refine (ordP_iff _ _ _).2 fun i hi => ?_
  have hi2 : i < m ∧ i < xs.length := by rw [List.length_take] at hi; omega
  rw [getD_take' hi2.1, List.take_take, Nat.min_eq_left (by omega)]
  exact h1 i hi2.2
theorem ordB_dup {hi : Int} {sss : List (List Int)} {xs : List Int} {x : Int} (h : hasB xs x = true) : ordB hi sss (xs ++ [x]) = false := by
  cases e : ordB hi sss (xs ++ [x]) with
  | false => rfl
  | true =>
    simp only [ordB, Bool.and_eq_true] at e
    have h1 := ((ordP_iff _ _ _).1 e.2 xs.length (by simp)).2
    rw [getD_end, List.take_left' rfl, h] at h1
    cases h1
theorem one_own' (w : World) (id : Int) (g : Nat) (hg : w.heap.size = g) : OwnAt (w.alloc (.cells #[.int .i64 id] 3)) g 1 1 [id] := by subst hg; exact one_own w id
theorem empty_row' {w : World} {B : Nat} (g : Nat) (hg : w.heap.size = g) (hB : B ≤ w.heap.size) : RowI (w.alloc (.cells #[] 3)) B (.slice (some ⟨g, 0, none⟩) 0 0) 0 [] := by subst hg; exact empty_row hB
theorem ordB_nil (hi : Int) (sss : List (List Int)) : ordB hi sss [] = yardB hi sss := by simp [ordB, ordP]

set_option maxHeartbeats 3200000 in
theorem fnOrderOk_walk (A : Option Addr) (n c : Nat) (zs : List Int) (w : World) (h : IsRow .u8 w A n c zs) :
    Calls Try.prog 11 #[.slice A n c] w fun e w' => e = .returned (.bool true) ∧ Below w.heap.size w w' := by
  by_cases hn : 1048576 < n
  · have hn' : (1048576 : Int) < n := by omega
    clear h
    go_enter Try.func11, Try.ntmps11
    go_wp2_with (fail)
    go_ret
    exact ⟨rfl, (by repeat' (first | with_reducible exact Below.refl _ _ | with_reducible assumption | with_reducible refine bel_step (by with_reducible assumption) ?_ ?_ | with_reducible refine Below.drew ?_ | with_reducible refine below_drewN ?_ _ | with_reducible refine Below.alloc ?_ ?_ _ | with_reducible refine Below.setCell ?_ ?_ _ | (simp; done) | (simp; omega) | omega | with_reducible refine below_le (by with_reducible assumption) ?_))⟩
  · have hn' : (n : Int) ≤ 1048576 := by omega
    have H := Lib.hid h
    clear h hn
    go_enter Try.func11, Try.ntmps11
    go_wp2_with (fail)
    refine (drawOrderOk_any _ _ _ _ _ H.out).mono ?_
    rintro e w1 ⟨hi, A1, n1, c1, sss, A2, n2, c2, xs, rfl, hI, hn1, ho, hn2, hb1⟩
    have hs1 := hb1.size
    have hl := hI.length
    have hJ := ho.ints
    have hl2 := hJ.length
    have hyd : Yd (w1.alloc (.cells #[.int .i64 hi, .slice A1 n1 c1] 27)) w1.heap.size hi A1 n1 c1 := ⟨by simp, by go_simp, by go_simp⟩
    have hI := hI.alloc (.cells #[.int .i64 hi, .slice A1 n1 c1] 27)
    have hJ := hJ.alloc (.cells #[.int .i64 hi, .slice A1 n1 c1] 27)
    have hb1 := hb1.alloc hs1 (.cells #[.int .i64 hi, .slice A1 n1 c1] 27)
    have hs1 := hb1.size
    go_wp2_with (fail)
    refine (implOrderOk_any _ _ _ _ _ _ _ _ _ _ hI hJ).mono ?_
    rintro e w2 ⟨rfl, hb2⟩
    have hb3 := hb1.trans (hb2.mono hs1)
    have hs3 := hb3.size
    have hI3 := hI.below hb2
    have hJ3 := hJ.below hb2
    have hyd3 := hyd.below hb2
    obtain ⟨y3, p0, p1⟩ := id hyd3
    clear hI hJ hb1 hb2 hyd
    go_wp2_with (fail)
    refine (specOrderOk_any _ _ _ _ _ _ _ _ _ _ hI3 hJ3 (by omega)).mono ?_
    rintro e w4 ⟨rfl, hb4⟩
    have hb5 := hb3.trans (hb4.mono hs3)
    have hs5 := hb5.size
    have hI5 := hI3.below hb4
    have hJ5 := hJ3.below hb4
    have hyd5 := hyd3.below hb4
    clear hI3 hJ3 hb3 hb4 hs3 hyd3 y3 p0 p1
    obtain ⟨y3, p0, p1⟩ := id hyd5
    by_cases h0 : n2 = 0
    · subst h0
      have hx : xs = [] := List.eq_nil_of_length_eq_zero hl2
      subst hx
      rw [ordB_nil]
      cases hv : yardB hi sss with
      | false =>
        go_wp2_with (go_at_call 15; refine (implYardValid_any _ _ _ _ _ _ hI5).mono ?_; rintro e w6 ⟨rfl, hb6⟩; rw [hv]; have hb7 := hb5.trans (hb6.mono hs5))
        go_ret
        exact ⟨rfl, hb7⟩
      | true =>
        go_wp2_with (go_at_call 15; refine (implYardValid_any _ _ _ _ _ _ hI5).mono ?_; rintro e w6 ⟨rfl, hb6⟩; rw [hv]; have hb7 := hb5.trans (hb6.mono hs5))
        go_ret
        exact ⟨rfl, hb7⟩
    · have hpos : (0 : Int) < n2 := by omega
      have hpos' : 0 < n2 := by omega
      cases hov : ordB hi sss xs with
      | false =>
        cases hv : yardB hi sss with
        | false =>
          go_wp2_with (go_at_call 15; refine (implYardValid_any _ _ _ _ _ _ hI5).mono ?_; rintro e w6 ⟨rfl, hb6⟩; rw [hv]; have hb7 := hb5.trans (hb6.mono hs5))
          go_ret
          exact ⟨rfl, hb7⟩
        | true =>
          go_wp2_with (go_at_call 15; refine (implYardValid_any _ _ _ _ _ _ hI5).mono ?_; rintro e w6 ⟨rfl, hb6⟩; rw [hv]; have hb7 := hb5.trans (hb6.mono hs5))
          go_ret
          exact ⟨rfl, hb7⟩
      | true =>
        obtain ⟨m, rfl⟩ : ∃ m, n2 = m + 1 := ⟨n2 - 1, by omega⟩
        have hne : ((m : Int) + 1 == 0) = false := by simp; omega
        have hne' : ¬ (m : Int) + 1 = 0 := by omega
        have hw1 : IntKind.i64.wrap (m : Int) = m := IntWalk.i64_in _ (by omega)
        obtain ⟨Y, hY⟩ : ∃ Y, w1.heap.size = Y := ⟨_, rfl⟩
        rw [hY] at p0 p1 y3
        obtain ⟨b, off, e2, hbl, hc2⟩ := hJ5.at_ hpos'
        subst e2
        rw [Nat.add_zero] at hc2
        have k1 := ordB_take hov m
        have k2 : ordB hi sss (xs ++ [xs.getD 0 0]) = false := ordB_dup (has_found xs _ 0 (by omega) rfl)
        obtain ⟨u, hu⟩ : ∃ u, xs.getD 0 0 = u := ⟨_, rfl⟩
        rw [hu] at hc2 k2
        have hmc : (m : Int) ≤ c2 := by have := hJ5.1; omega
        have b1 : (0 : Int) ≤ (m : Int) := by omega
        have b3 : (m : Int) < (m : Int) + 1 := by omega
        have hcutd : Ints w4.drew (some ⟨b, off, none⟩) m c2 (xs.take m) := hJ5.cut (show m ≤ m + 1 by omega)
        have hJd : Ints w4.drew (some ⟨b, off, none⟩) (m + 1) c2 xs := hJ5
        have hId : IsStk w4.drew A1 n1 c1 sss := hI5
        have hbd : Below w.heap.size w w4.drew := hb5.drew
        have hsd : w.heap.size ≤ w4.drew.heap.size := hs5
        have hyl : Y < w4.drew.heap.size := y3
        have hbl' : b < w4.drew.heap.size := hbl
        have hp0 : w4.drew.cell? ⟨Y, 0, none⟩ = some (.int .i64 hi) := p0
        have hp1 : w4.drew.cell? ⟨Y, 1, none⟩ = some (.slice A1 n1 c1) := p1
        have hp2 : w4.drew.cell? ⟨b, off, none⟩ = some (.int .i64 u) := hc2
        have Hcutd := Lib.hid hcutd
        have HJd := Lib.hid hJd
        have HId := Lib.hid hId
        have Hbd := Lib.hid hbd
        clear hu hov hcutd hJd hId hbd hJ5 hI5 hb5 hyd5 ho
        go_wp2_with (fail)
        go_region_held3 (fun w' => w'.cell? ⟨Y, 0, none⟩ = some (.int .i64 hi) ∧ w'.cell? ⟨Y, 1, none⟩ = some (.slice A1 n1 c1) ∧ w'.cell? ⟨b, off, none⟩ = some (.int .i64 u)) (first | assumption | exact Far.out _ hb7 | exact Far.out _ hb6 | exact Far.out _ hb5 | exact Far.out _ (hb5.alloc hs5 _) | exact Far.out _ hbb | exact Far.out _ (hbb.alloc (Nat.le_refl _) _) | exact Far.out _ ((hbb.alloc (Nat.le_refl _) _).alloc (le_alloc (Nat.le_refl _) _) _) | (go_keep; done))
          (first
            | (refine step_ints_at rfl _ _ rfl v1.heap.size v5 (m + 1) xs rfl hr5 (some ⟨v1.heap.size + 1, 0, none⟩) 1 1 [u] rfl hOne (by omega) hs5 ?_
               intro v6 w6 hr6 hg6 _
               have hb6 : Below v1.heap.size v1 w6 := below_append hb5 hr5 hg6 hs5
               obtain ⟨A6, c6, rfl, ho6⟩ := hr6.own)
            | (refine step_ints_at rfl _ _ rfl v1.heap.size v5 (m + 1) xs rfl hr5 (some ⟨v1.heap.size, 0, none⟩) 1 1 [u] rfl hOne (by omega) hs5 ?_
               intro v6 w6 hr6 hg6 _
               have hb6 : Below v1.heap.size v1 w6 := below_append hb5 hr5 hg6 hs5
               obtain ⟨A6, c6, rfl, ho6⟩ := hr6.own)
            | (refine step_ints_at rfl _ _ rfl v1.heap.size v5 (m + 1) xs rfl (hr5.alloc _) (some ⟨w5.heap.size, 0, none⟩) 1 1 [u] rfl (one_ints _ _) (by omega) (le_alloc hs5 _) ?_
               intro v6 w6 hr6 hg6 _
               have hb6 : Below v1.heap.size v1 w6 := below_append (hb5.alloc hs5 _) (hr5.alloc _) hg6 (le_alloc hs5 _)
               obtain ⟨A6, c6, rfl, ho6⟩ := hr6.own)
            | (refine step_ints_at rfl _ _ rfl v1.heap.size (.slice (some ⟨v1.heap.size, 0, none⟩) 0 0) 0 [] rfl (empty_row (w := v1) (Nat.le_refl _)) (some ⟨b, off, none⟩) (m + 1) c2 xs rfl (HJv.out.alloc _) (by omega) (le_alloc (Nat.le_refl _) _) ?_
               intro v5 w5 hr5 hg5 _; rw [Nat.zero_add, List.nil_append] at hr5
               have hb5 : Below v1.heap.size v1 w5 := below_append (hbb.alloc (Nat.le_refl _) _) (empty_row (Nat.le_refl _)) hg5 (le_alloc (Nat.le_refl _) _)
               have hs5 := hb5.size)
            | (refine step_ints_at rfl _ _ rfl v1.heap.size (.slice (some ⟨v1.heap.size, 0, none⟩) 0 0) 0 [] rfl ((empty_row (w := v1) (Nat.le_refl _)).alloc _) (some ⟨b, off, none⟩) (m + 1) c2 xs rfl ((HJv.out.alloc _).alloc _) (by omega) (le_alloc (le_alloc (Nat.le_refl _) _) _) ?_
               intro v5 w5 hr5 hg5 _; rw [Nat.zero_add, List.nil_append] at hr5
               have hb5 : Below v1.heap.size v1 w5 := below_append ((hbb.alloc (Nat.le_refl _) _).alloc (le_alloc (Nat.le_refl _) _) _) ((empty_row (w := v1) (Nat.le_refl _)).alloc _) hg5 (le_alloc (le_alloc (Nat.le_refl _) _) _)
               have hs5 := hb5.size
               have hOne : Ints w5 (some ⟨v1.heap.size + 1, 0, none⟩) 1 1 [u] := ((one_own' (v1.alloc (.cells #[] 3)) u (v1.heap.size + 1) (by simp)).keep (hg5.block (v1.heap.size + 1) (by simp) (by simp [Value.ownBlock]))).ints)
            | (refine step_ints_at rfl _ _ rfl v1.heap.size (.slice (some ⟨v1.heap.size + 1, 0, none⟩) 0 0) 0 [] rfl (empty_row' (w := v1.alloc (.cells #[.int .i64 u] 3)) (v1.heap.size + 1) (by simp) (le_alloc (Nat.le_refl _) _)) (some ⟨b, off, none⟩) (m + 1) c2 xs rfl ((HJv.out.alloc _).alloc _) (by omega) (le_alloc (le_alloc (Nat.le_refl _) _) _) ?_
               intro v5 w5 hr5 hg5 _; rw [Nat.zero_add, List.nil_append] at hr5
               have hb5 : Below v1.heap.size v1 w5 := below_append ((hbb.alloc (Nat.le_refl _) _).alloc (le_alloc (Nat.le_refl _) _) _) (empty_row' (w := v1.alloc (.cells #[.int .i64 u] 3)) (v1.heap.size + 1) (by simp) (le_alloc (Nat.le_refl _) _)) hg5 (le_alloc (le_alloc (Nat.le_refl _) _) _)
               have hs5 := hb5.size
               have hOne : Ints w5 (some ⟨v1.heap.size, 0, none⟩) 1 1 [u] := ((one_own v1 u).below ((Below.refl _ _).alloc (Nat.le_refl _) _) |>.keep (hg5.block v1.heap.size (by simp; omega) (by simp [Value.ownBlock]))).ints)
            | (go_at_call 27; refine (implOrderOk_any _ _ _ _ _ _ _ _ _ _ (HIv.out.below hb6) ho6.ints).mono ?_; rintro e v7 ⟨rfl, hb7'⟩; rw [k2]
               have hb7 := hb6.trans (hb7'.mono hb6.size)
               have hb8 := hb3.trans (hb7.mono hs3))
            | (go_at_call 27; refine (implOrderOk_any _ _ _ _ _ _ _ _ _ _ HId.out Hcutd.out).mono ?_; rintro e v1 ⟨rfl, hv1⟩; rw [k1]
               have hb3 := Hbd.out.trans (hv1.mono hsd)
               have hs3 := hb3.size
               have HIv := Lib.hid (HId.out.below hv1)
               have HJv := Lib.hid (HJd.out.below hv1)
               have hbb : Below v1.heap.size v1 v1 := Below.refl _ _
               have hyv := Nat.lt_of_lt_of_le hyl hv1.size
               have hbv := Nat.lt_of_lt_of_le hbl' hv1.size
               have g0 := (hv1.cell (p := ⟨Y, 0, none⟩) hyl).trans hp0
               have g1 := (hv1.cell (p := ⟨Y, 1, none⟩) hyl).trans hp1
               have g2 := (hv1.cell (p := ⟨b, off, none⟩) hbl').trans hp2
               have Far := Lib.hid (fun (W : World) (hW : Below v1.heap.size v1 W) => And.intro ((hW.cell (p := ⟨Y, 0, none⟩) hyv).trans g0) (And.intro ((hW.cell (p := ⟨Y, 1, none⟩) hyv).trans g1) ((hW.cell (p := ⟨b, off, none⟩) hbv).trans g2))))
            | (go_at_call 31; refine (alive_any _).mono ?_; rintro e w' ⟨rfl, rfl⟩))
        all_goals go_wp2_with (fail)
        all_goals go_ret
        all_goals exact ⟨rfl, hb8⟩
end Go.Proofs.Yteghialkkhmggaa
