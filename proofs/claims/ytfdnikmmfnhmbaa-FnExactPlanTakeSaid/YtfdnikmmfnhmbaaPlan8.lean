/- spec.PlanTake at slices that read as lists. Conditions: that the slices read as lists. -/
import Derived.Test.YtfdnikmmfnhmbaaPlan7
namespace Go.Proofs.Ytfdnikmmfnhmbaa
open Go.RowKit
set_option linter.unusedVariables false

theorem planB_takeX {b r t : Int} {bs : List Bx} {xs : List Int} {m : Nat} (h : planB b r t bs xs = true) (hm : m < xs.length) (hx : xs.getD m 0 ≠ 0) :
    canTake b r t bs xs m = planB b r t bs (xs.set m 0) := by
  have hin : inR (m : Int) 0 ((xs.length : Int) - 1) = true := inR_yes (by omega)
  have hxv : (xs.getD m 0 != 0) = true := by rw [bne_iff_ne]; exact hx
  rw [canTake, h, hin, Int.toNat_natCast, hxv, planB_set h hm hx]; rfl

set_option maxHeartbeats 3200000 in
theorem specPlanTake_any (b r t : Int) (A : Option Addr) (n c : Nat) (bs : List Bx) (A' : Option Addr) (n' c' : Nat) (xs : List Int) (slot : Int) (w : World) (h : IsBoxes w A n c bs) (h' : Ints w A' n' c' xs) :
    Calls Try.prog 29 #[.agg #[.int .i64 b, .int .i64 r, .int .i64 t], .slice A n c, .slice A' n' c', .int .i64 slot] w (TakeP w (takeX b r t bs xs slot) (takeY b r t bs xs slot)) := by
  have H := Lib.hid h
  have H' := Lib.hid h'
  have Hl' := Lib.hid h'.length
  have hlen' := h'.len
  clear h h'
  have hbe : Below w.heap.size w (w.alloc (.cells #[.int .i64 b, .int .i64 r, .int .i64 t] 26)) := (Below.refl _ _).alloc (Nat.le_refl _) _
  have h3e : Hull3 (w.alloc (.cells #[.int .i64 b, .int .i64 r, .int .i64 t] 26)) w.heap.size b r t := ⟨by simp, by go_simp, by go_simp, by go_simp⟩
  have H3 := Lib.hid h3e
  have Hbe := Lib.hid hbe
  clear h3e hbe
  cases hp : planB b r t bs xs with
  | false =>
    have hf1 : takeX b r t bs xs slot = [] := by simp [takeX, hp]
    have hf2 : takeY b r t bs xs slot = -1 := by simp [takeY, canTake, hp]
    have Hf1 := Lib.hid hf1
    have Hf2 := Lib.hid hf2
    clear hf1 hf2
    go_enter Try.func29, Try.ntmps29
    go_wp2_with (go_at_call 17; refine (specPlanValid_any _ _ _ _ _ _ _ _ _ _ _ _ (H.out.alloc _) (H'.out.alloc _)).mono ?_; rintro e w1 ⟨rfl, hb0⟩; rw [hp]; have hb1 : Below w.heap.size w w1 := Hbe.out.trans (hb0.mono Hbe.out.size))
    go_ret2
    exact ⟨some ⟨w1.heap.size, 0, none⟩, 0, 0, by rw [Hf2.out]; rfl, .inr ⟨_, rfl, hb1.size, by rw [Hf1.out]; exact empty_own w1⟩, hb1.alloc hb1.size _⟩
  | true =>
    have hn36 := planB_len hp
    obtain ⟨hhu, hN⟩ := planB_hull hp
    obtain ⟨N, hN', hN1, _⟩ := hull_slots hhu
    rw [Hl'.out] at hn36 hN
    have hn1 : 0 < n' := by omega
    have hn20 : n' ≤ 1048576 := by omega
    clear hN hN' hN1 hhu
    have hw0 : IntKind.i64.wrap ((n' : Int) - 1) = (n' : Int) - 1 := IntWalk.i64_in _ (by omega)
    go_enter Try.func29, Try.ntmps29
    go_wp2_with (first
      | (at_builtin; refine wpList_append_ints rfl _ _ rfl w1.heap.size (.slice (some ⟨w1.heap.size, 0, none⟩) 0 0) 0 [] rfl (empty_row (Nat.le_refl _)) A' n' c' xs rfl (hZ1.alloc _) (by omega) (le_alloc (Nat.le_refl _) _) ?_; intro v2 w2 hr2 hg2; rw [Nat.zero_add, List.nil_append] at hr2
         have hb2 : Below w.heap.size w w2 := below_append (hb1.alloc hs1 _) (rowLess (empty_row (Nat.le_refl _)) hs1) hg2 (le_alloc hs1 _)
         have hh2 : Hull3 w2 w.heap.size b r t := keepHull (hh1.below ((Below.refl _ _).alloc (Nat.le_refl _) _)) (rowLess (empty_row (Nat.le_refl _)) hh1.1) hg2
         have hH1 := hh1.1
         obtain ⟨g2, c2, rfl, hg2', ho2⟩ := row_some hr2 hn1
         have hg2 : w.heap.size ≤ g2 := Nat.le_trans hs1 hg2')
      | (go_at_call 17; refine (specPlanValid_any _ _ _ _ _ _ _ _ _ _ _ _ (H.out.alloc _) (H'.out.alloc _)).mono ?_; rintro e w1 ⟨rfl, hb0⟩; rw [hp]
         have hb1 : Below w.heap.size w w1 := Hbe.out.trans (hb0.mono Hbe.out.size)
         have hs1 := hb1.size
         have hh1 := H3.out.below hb0
         have hZ1 := H'.out.below hb1))
    refine (l1In_any _ _ _ _).mono ?_
    rintro e w' ⟨rfl, rfl⟩
    cases hin : inR slot 0 ((n' : Int) - 1) with
    | false =>
      have hct : canTake b r t bs xs slot = false := by rw [canTake, hp, Hl'.out, hin]; rfl
      have hf1 : takeX b r t bs xs slot = xs := by simp [takeX, hp, hct]
      have hf2 : takeY b r t bs xs slot = -1 := by simp [takeY, hct]
      go_wp2_with (fail)
      go_ret2
      exact ⟨some ⟨g2, 0, none⟩, n', c2, by rw [hf2]; rfl, .inr ⟨g2, rfl, hg2, by rw [hf1]; exact ho2⟩, hb2⟩
    | true =>
      obtain ⟨hs0, hs1'⟩ := inR_iff.1 hin
      obtain ⟨m, rfl⟩ := Int.eq_ofNat_of_zero_le hs0
      have hm : m < n' := by omega
      have hm' : (m : Int) < n' := by omega
      have hm0 : (0 : Int) ≤ m := by omega
      have hmx : m < xs.length := by rw [Hl'.out]; exact hm
      obtain ⟨g, off, hA, hg, hc⟩ := H'.out.at_ hm
      subst hA
      have hd := (hb2.cell (p := ⟨g, off + m, none⟩) hg).trans hc
      have hgne : ¬ g = g2 := by omega
      by_cases hx : xs.getD m 0 = 0
      · have hct : canTake b r t bs xs m = false := by
          have : (xs.getD ((m : Int)).toNat 0 != 0) = false := by rw [Int.toNat_natCast, hx]; rfl
          rw [canTake, hp, Hl'.out, hin, this]; rfl
        have hf1 : takeX b r t bs xs m = xs := by simp [takeX, hp, hct]
        have hf2 : takeY b r t bs xs m = -1 := by simp [takeY, hct]
        have Hf1 := Lib.hid hf1
        have Hf2 := Lib.hid hf2
        rw [hx] at hd
        clear hf1 hf2 hct hx hc hin
        go_wp2_with (fail)
        go_ret2
        exact ⟨some ⟨g2, 0, none⟩, n', c2, by rw [Hf2.out]; rfl, .inr ⟨g2, rfl, hg2, by rw [Hf1.out]; exact ho2⟩, hb2⟩
      · have hcan := planB_takeX hp hmx hx
        obtain ⟨u, hu⟩ : ∃ u, xs.getD m 0 = u := ⟨_, rfl⟩
        have hu0 : (u == 0) = false := beq_eq_false_iff_ne.2 (by rw [← hu]; exact hx)
        have hgc := ho2.cell hm
        have hgf := ho2.free m
        rw [hu] at hd hgc
        have hn3 := ho2.set_ m 0
        have hb3 : Below w.heap.size w (w2.setCell ⟨g2, m, none⟩ (.int .i64 0)) := hb2.setCell (p := ⟨g2, m, none⟩) hg2 _
        have hg2n : ¬ g2 = w.heap.size := by omega
        obtain ⟨y3, p0, p1, p2⟩ := id hh2
        have hIx := H.out.below hb3
        have hOx := hn3.ints
        have hgr : g < w2.heap.size := Nat.lt_of_lt_of_le hg hb2.size
        have Hn3 := Lib.hid hn3
        have HO := Lib.hid hOx
        have Hcan := Lib.hid hcan
        have Hu := Lib.hid hu
        have Hc := Lib.hid hc
        have HI := Lib.hid hIx
        clear hn3 hOx hcan hu hIx hx hc
        cases hct : canTake b r t bs xs m with
        | true =>
          have hf1 : takeX b r t bs xs m = xs.set m 0 := by rw [takeX, if_pos hp, hct]; rfl
          have hf2 : takeY b r t bs xs m = u := by rw [takeY, hct, Int.toNat_natCast, Hu.out]; rfl
          have Hf1 := Lib.hid hf1
          have Hf2 := Lib.hid hf2
          rw [Hcan.out] at hct
          clear hf1 hf2
          go_wp2_with (first
            | (go_at_call 17; refine (specPlanValid_any _ _ _ _ _ _ _ _ _ _ _ _ HI.out HO.out).mono ?_; rintro e w4 ⟨rfl, hb4⟩; rw [hct]
               have hb5 : Below w.heap.size w w4 := hb3.trans (hb4.mono hb3.size)
               have hs5 := hb5.size
               have hd5 := (hb5.cell (p := ⟨g, off + m, none⟩) hg).trans Hc.out
               rw [Hu.out] at hd5
               have ho5 := Hn3.out.below hb4
               have hZ5 := H'.out.below hb5
               clear hb4))
          go_quiet (fail)
          go_wp2
          go_ret2
          exact ⟨some ⟨g2, 0, none⟩, n', c2, by rw [Hf2.out]; rfl, .inr ⟨g2, rfl, hg2, by rw [Hf1.out]; exact ho5.drewN _⟩, below_drewN hb5 _⟩
        | false =>
          have hf1 : takeX b r t bs xs m = xs := by rw [takeX, if_pos hp, hct]; rfl
          have hf2 : takeY b r t bs xs m = -1 := by rw [takeY, hct]; rfl
          have Hf1 := Lib.hid hf1
          have Hf2 := Lib.hid hf2
          rw [Hcan.out] at hct
          clear hf1 hf2
          go_wp2_with (first
            | (at_builtin; refine wpList_append_ints rfl _ _ rfl w.heap.size (.slice (some ⟨w4.heap.size, 0, none⟩) 0 0) 0 [] rfl (empty_row hs5) (some ⟨g, off, none⟩) n' c' xs rfl (hZ5.alloc _) (by omega) (le_alloc hs5 _) ?_; intro v6 w6 hr6 hg6; rw [Nat.zero_add, List.nil_append] at hr6
               have hb6 : Below w.heap.size w w6 := below_append (hb5.alloc hs5 _) (empty_row hs5) hg6 (le_alloc hs5 _)
               obtain ⟨g6, c6, rfl, hg6', ho6⟩ := row_some hr6 hn1)
            | (go_at_call 17; refine (specPlanValid_any _ _ _ _ _ _ _ _ _ _ _ _ HI.out HO.out).mono ?_; rintro e w4 ⟨rfl, hb4⟩; rw [hct]
               have hb5 : Below w.heap.size w w4 := hb3.trans (hb4.mono hb3.size)
               have hs5 := hb5.size
               have hd5 := (hb5.cell (p := ⟨g, off + m, none⟩) hg).trans Hc.out
               rw [Hu.out] at hd5
               have ho5 := Hn3.out.below hb4
               have hZ5 := H'.out.below hb5
               clear hb4))
          go_ret2
          exact ⟨some ⟨g6, 0, none⟩, n', c6, by rw [Hf2.out]; rfl, .inr ⟨g6, rfl, hg6', by rw [Hf1.out]; exact ho6⟩, hb6⟩
end Go.Proofs.Ytfdnikmmfnhmbaa
