/- spec.OrderOk. Conditions: that the slices read as lists. The region with a shut guard is walked by hand (wpAnyH_take: Or.inr where an operation is not wanted). -/
import Derived.Test.YteghialkkhmggaaYardB
namespace Go.Proofs.Yteghialkkhmggaa
open Go.RowKit
set_option linter.unusedVariables false

set_option maxHeartbeats 3200000 in
theorem specOrderOk_any (hi : Int) (A : Option Addr) (n c : Nat) (sss : List (List Int)) (A' : Option Addr) (n' c' : Nat) (xs : List Int) (w : World) (h : IsStk w A n c sss) (h' : Ints w A' n' c' xs) (hn : n ≤ 1048576) :
    Calls Try.prog 25 #[.agg #[.int .i64 hi, .slice A n c], .slice A' n' c'] w fun e w' => e = .returned (.bool (ordB hi sss xs)) ∧ Below w.heap.size w w' := by
  have H := Lib.hid h
  have H' := Lib.hid h'
  have Hl' := Lib.hid h'.length
  have hlen' := h'.len
  clear h h'
  have hy0 : Yd (w.alloc (.cells #[.int .i64 hi, .slice A n c] 27)) w.heap.size hi A n c := ⟨by simp, by go_simp, by go_simp⟩
  have hb0 : Below w.heap.size w (w.alloc (.cells #[.int .i64 hi, .slice A n c] 27)) := (Below.refl _ _).alloc (Nat.le_refl _) _
  go_enter Try.func25, Try.ntmps25
  go_wp2_with (fail)
  go_loopw [5] (fun i wr => ∃ k : Nat, k ≤ n' ∧ i = .int .i64 k ∧ (0 < k → yardB hi sss = true) ∧ ordP sss xs k = true ∧ Yd wr w.heap.size hi A n c ∧ Below w.heap.size w wr) (fun i _ => n' - (intOf i).toNat)
  case atStart => exact ⟨0, by omega, rfl, (fun h => absurd h (by omega)), rfl, hy0, hb0⟩
  case round =>
    clear hy0 hb0
    obtain ⟨k, hk, rfl, hyk, hok, hyd, hbr⟩ := hrel
    have hsr := hbr.size
    have Hyk := Lib.hid hyk
    have Hyd := Lib.hid hyd
    obtain ⟨y3, p0, p1⟩ := id hyd
    clear hyd hyk
    by_cases hlt : k < n'
    · have hlt' : (k : Int) < n' := by omega
      have hk0 : (0 : Int) ≤ k := by omega
      obtain ⟨b, off, hA, hb, hc0⟩ := H'.out.at_ hlt
      subst hA
      have hc := (hbr.cell (p := ⟨b, off + k, none⟩) hb).trans hc0
      have hbx : b < wr.heap.size := Nat.lt_of_lt_of_le hb hsr
      have hIr := H.out.below hbr
      have hcut := (H'.out.cut (k := k) (by omega)).below hbr
      have hkc : (k : Int) ≤ c' := by have := H'.out.1; omega
      have hsu := ordP_succ sss xs k
      rw [hok, Bool.true_and] at hsu
      have hno := ordB_no (hi := hi) (sss := sss) k (show k < xs.length by rw [Hl'.out]; exact hlt)
      obtain ⟨u, hu⟩ : ∃ u, xs.getD k 0 = u := ⟨_, rfl⟩
      rw [hu] at hc hsu
      obtain ⟨ys, hys⟩ : ∃ ys, xs.take k = ys := ⟨_, rfl⟩
      rw [hys] at hsu hcut
      obtain ⟨q, hq⟩ : ∃ q, findY hi sss u = q := ⟨_, rfl⟩
      have Hno := Lib.hid hno
      have Hcut := Lib.hid hcut
      have HIr := Lib.hid hIr
      have Hq := Lib.hid hq
      clear hno hcut hIr hys hu hc0
      by_cases hq0 : q < 0
      · have hfin : ordB hi sss xs = false := by
          cases hv : yardB hi sss with
          | false => simp [ordB, hv]
          | true =>
            rw [findY, if_pos hv] at hq
            rw [hq, decide_eq_false (show ¬ 0 ≤ q by omega)] at hsu
            exact Hno.out (by rw [hsu]; rfl)
        have Hfin := Lib.hid hfin
        have hq1 : q = -1 := by
          have hge : -1 ≤ findY hi sss u := by
            rw [findY]
            split
            · exact ixS_ge _ _
            · omega
          omega
        subst hq1
        clear hfin hsu hq hok hq0
        go_wp2_with (fail)
        have hIx : IsStk wr.drew A n c sss := HIr.out
        have HIx := Lib.hid hIx
        clear hIx
        refine wp_region_held_drew (S := fun w' => w'.cell? ⟨w.heap.size, 0, none⟩ = some (.int .i64 hi) ∧ w'.cell? ⟨w.heap.size, 1, none⟩ = some (.slice A n c) ∧ w'.cell? ⟨b, off + k, none⟩ = some (.int .i64 u)) (by kernel_rfl) ?_ (fun hHeld => ?_)
        · go_keep
        refine wpAnyH_take (i := 0) (oi := _) (v := ?_) rfl (by kernel_rfl) (by kernel_rfl) (by kernel_rfl) (fun _ _ _ h => h) (Or.inl ⟨by rfl, ?_⟩) (by assumption) ?_
        rotate_left
        · (intro w hSw; (try dsimp only at hSw); go_simp); (try with_reducible rfl)
        simp only [Act.put, List.getElem_toArray, List.getElem_cons_zero, List.setIfInBounds_toArray, List.set_cons_zero, List.set_cons_succ, List.size_toArray, List.length_cons, List.length_nil, Nat.reduceAdd, Array.replicate_succ, Array.replicate_zero, List.push_toArray, List.nil_append, List.cons_append]
        refine wpAnyH_take (i := 1) (oi := _) (v := ?_) rfl (by kernel_rfl) (by kernel_rfl) (by kernel_rfl) (fun _ _ _ h => h) (Or.inl ⟨by rfl, ?_⟩) (by assumption) ?_
        rotate_left
        · (intro w hSw; (try dsimp only at hSw); go_simp); (try with_reducible rfl)
        simp only [Act.put, List.getElem_toArray, List.getElem_cons_zero, List.getElem_cons_succ, List.setIfInBounds_toArray, List.set_cons_zero, List.set_cons_succ]
        refine wpAnyH_take (i := 2) (oi := _) (v := ?_) rfl (by kernel_rfl) (by kernel_rfl) (by kernel_rfl) (fun _ _ _ h => h) (Or.inl ⟨by rfl, ?_⟩) (by assumption) ?_
        rotate_left
        · (intro w hSw; (try dsimp only at hSw); go_simp); (try with_reducible rfl)
        simp only [Act.put, List.getElem_toArray, List.getElem_cons_zero, List.getElem_cons_succ, List.setIfInBounds_toArray, List.set_cons_zero, List.set_cons_succ]
        refine wpAnyH_take (i := 3) (oi := _) (v := ?_) rfl (by kernel_rfl) (by kernel_rfl) (by kernel_rfl) (fun _ _ _ h => h) (Or.inl ⟨by rfl, ?_⟩) (by assumption) ?_
        rotate_left
        · (intro w hSw; (try dsimp only at hSw); go_simp); (try with_reducible rfl)
        simp only [Act.put, List.getElem_toArray, List.getElem_cons_zero, List.getElem_cons_succ, List.setIfInBounds_toArray, List.set_cons_zero, List.set_cons_succ]
        refine wpAnyH_take (i := 4) (oi := _) (v := ?_) rfl (by kernel_rfl) (by kernel_rfl) (by kernel_rfl) (fun _ _ _ h => h) (Or.inl ⟨by rfl, ?_⟩) (by assumption) ?_
        rotate_left
        · (intro w hSw; (try dsimp only at hSw); go_simp); (try with_reducible rfl)
        simp only [Act.put, List.getElem_toArray, List.getElem_cons_zero, List.getElem_cons_succ, List.setIfInBounds_toArray, List.set_cons_zero, List.set_cons_succ]
        refine wpAnyH_ready (rs := [5]) (by kernel_rfl) (by simp) ?_
        refine AllReadyH.cons (o := _) rfl (fun K hK => ?_) AllReadyH.nil
        simp only [Act.put, List.getElem_toArray, List.getElem_cons_zero, List.getElem_cons_succ, List.setIfInBounds_toArray, List.set_cons_zero, List.set_cons_succ]
        go_simp
        refine (specYardFind_any _ _ _ _ _ _ _ HIx.out hn).mono ?_
        rintro e v1 ⟨rfl, hv1⟩
        rw [Hq.out]
        have hb3 := (hbr.drew).trans (hv1.mono hsr)
        have e0 := (hv1.cell (p := ⟨w.heap.size, 0, none⟩) y3).trans p0
        have e1 := (hv1.cell (p := ⟨w.heap.size, 1, none⟩) y3).trans p1
        have e2 := (hv1.cell (p := ⟨b, off + k, none⟩) hbx).trans hc
        go_wp2_with (fail)
        refine hK.out _ _ ⟨e0, e1, e2⟩ (fun hHeld2 => ?_)
        clear hK K hHeld
        simp only [List.setIfInBounds_toArray, List.set_cons_zero, List.set_cons_succ]
        refine wpAnyH_take (i := 6) (oi := _) (v := ?_) rfl (by kernel_rfl) (by kernel_rfl) (by kernel_rfl) (fun _ _ _ h => h) (Or.inl ⟨by rfl, ?_⟩) (by assumption) ?_
        rotate_left
        · (intro w hSw; (try dsimp only at hSw); go_simp); (try with_reducible rfl)
        simp only [Act.put, List.getElem_toArray, List.getElem_cons_zero, List.getElem_cons_succ, List.setIfInBounds_toArray, List.set_cons_zero, List.set_cons_succ]
        refine wpAnyH_take (i := 7) (oi := _) (v := ?_) rfl (by kernel_rfl) (by kernel_rfl) (by kernel_rfl) (fun _ _ _ h => h) (Or.inl ⟨by rfl, ?_⟩) (by assumption) ?_
        rotate_left
        · (intro w hSw; (try dsimp only at hSw); go_simp); (try with_reducible rfl)
        simp only [Act.put, List.getElem_toArray, List.getElem_cons_zero, List.getElem_cons_succ, List.setIfInBounds_toArray, List.set_cons_zero, List.set_cons_succ]
        refine wpAnyH_take (i := 8) (oi := _) (v := undef) rfl (by kernel_rfl) (by kernel_rfl) (by kernel_rfl) (fun _ _ _ h => h) (Or.inr ⟨by rfl, rfl⟩) (by assumption) ?_
        simp only [Act.put, List.getElem_toArray, List.getElem_cons_zero, List.getElem_cons_succ, List.setIfInBounds_toArray, List.set_cons_zero, List.set_cons_succ]
        refine wpAnyH_take (i := 9) (oi := _) (v := undef) rfl (by kernel_rfl) (by kernel_rfl) (by kernel_rfl) (fun _ _ _ h => h) (Or.inr ⟨by rfl, rfl⟩) (by assumption) ?_
        simp only [Act.put, List.getElem_toArray, List.getElem_cons_zero, List.getElem_cons_succ, List.setIfInBounds_toArray, List.set_cons_zero, List.set_cons_succ]
        refine wpAnyH_take (i := 10) (oi := _) (v := undef) rfl (by kernel_rfl) (by kernel_rfl) (by kernel_rfl) (fun _ _ _ h => h) (Or.inr ⟨by rfl, rfl⟩) (by assumption) ?_
        simp only [Act.put, List.getElem_toArray, List.getElem_cons_zero, List.getElem_cons_succ, List.setIfInBounds_toArray, List.set_cons_zero, List.set_cons_succ]
        refine wpAnyH_take (i := 11) (oi := _) (v := undef) rfl (by kernel_rfl) (by kernel_rfl) (by kernel_rfl) (fun _ _ _ h => h) (Or.inr ⟨by rfl, rfl⟩) (by assumption) ?_
        simp only [Act.put, List.getElem_toArray, List.getElem_cons_zero, List.getElem_cons_succ, List.setIfInBounds_toArray, List.set_cons_zero, List.set_cons_succ]
        refine wpAnyH_take (i := 12) (oi := _) (v := undef) rfl (by kernel_rfl) (by kernel_rfl) (by kernel_rfl) (fun _ _ _ h => h) (Or.inr ⟨by rfl, rfl⟩) (by assumption) ?_
        simp only [Act.put, List.getElem_toArray, List.getElem_cons_zero, List.getElem_cons_succ, List.setIfInBounds_toArray, List.set_cons_zero, List.set_cons_succ]
        refine wpAnyH_take (i := 13) (oi := _) (v := undef) rfl (by kernel_rfl) (by kernel_rfl) (by kernel_rfl) (fun _ _ _ h => h) (Or.inr ⟨by rfl, rfl⟩) (by assumption) ?_
        simp only [Act.put, List.getElem_toArray, List.getElem_cons_zero, List.getElem_cons_succ, List.setIfInBounds_toArray, List.set_cons_zero, List.set_cons_succ]
        refine wpAnyH_take (i := 14) (oi := _) (v := undef) rfl (by kernel_rfl) (by kernel_rfl) (by kernel_rfl) (fun _ _ _ h => h) (Or.inr ⟨by rfl, rfl⟩) (by assumption) ?_
        simp only [Act.put, List.getElem_toArray, List.getElem_cons_zero, List.getElem_cons_succ, List.setIfInBounds_toArray, List.set_cons_zero, List.set_cons_succ]
        refine wpAnyH_take (i := 15) (oi := _) (v := undef) rfl (by kernel_rfl) (by kernel_rfl) (by kernel_rfl) (fun _ _ _ h => h) (Or.inr ⟨by rfl, rfl⟩) (by assumption) ?_
        simp only [Act.put, List.getElem_toArray, List.getElem_cons_zero, List.getElem_cons_succ, List.setIfInBounds_toArray, List.set_cons_zero, List.set_cons_succ]
        refine wpAnyH_take (i := 16) (oi := _) (v := ?_) rfl (by kernel_rfl) (by kernel_rfl) (by kernel_rfl) (fun _ _ _ h => h) (Or.inl ⟨by rfl, ?_⟩) (by assumption) ?_
        rotate_left
        · (intro w hSw; (try dsimp only at hSw); go_simp); (try with_reducible rfl)
        simp only [Act.put, List.getElem_toArray, List.getElem_cons_zero, List.getElem_cons_succ, List.setIfInBounds_toArray, List.set_cons_zero, List.set_cons_succ]
        refine wpAnyH_done (by kernel_rfl) ?_ _
        go_wp2_with (fail)
        go_ret
        exact ⟨ret_bool (by rw [Hfin.out]), hb3⟩
      · have hv : yardB hi sss = true := by
          cases hv : yardB hi sss with
          | true => rfl
          | false => rw [findY, hv] at hq; simp at hq; omega
        rw [findY, if_pos hv] at hq
        rw [hq] at hsu
        obtain ⟨m, rfl⟩ := Int.eq_ofNat_of_zero_le (show 0 ≤ q by omega)
        rw [decide_eq_true (show (0 : Int) ≤ m by omega), Bool.true_and] at hsu
        clear hq0 hq hok
        cases hha : hasB ys u with
        | true =>
          rw [hha] at hsu
          have hfin := Hno.out (by rw [hsu]; rfl)
          have Hfin := Lib.hid hfin
          clear hfin hsu
          go_wp2_with (fail)
          have hIx : IsStk wr.drew A n c sss := HIr.out
          have HIx := Lib.hid hIx
          clear hIx
          go_region_held3 (fun w' => w'.cell? ⟨w.heap.size, 0, none⟩ = some (.int .i64 hi) ∧ w'.cell? ⟨w.heap.size, 1, none⟩ = some (.slice A n c) ∧ w'.cell? ⟨b, off + k, none⟩ = some (.int .i64 u)) (first | (go_keep; done) | exact ⟨e0, e1, e2⟩)
            (first
              | (go_at_call 40; refine (l1Has_any _ _ _ _ _ _ hcut1).mono ?_; rintro e w' ⟨rfl, rfl⟩; rw [hha])
              | (go_at_call 17; refine (specYardFind_any _ _ _ _ _ _ _ HIx.out hn).mono ?_; rintro e v1 ⟨rfl, hv1⟩; rw [Hq.out]
                 have hb3 := (hbr.drew).trans (hv1.mono hsr)
                 have hcut1 := Ints.below (w := wr.drew) Hcut.out hv1
                 have hy2 := Yd.below (w := wr.drew) Hyd.out hv1
                 have e0 := (hv1.cell (p := ⟨w.heap.size, 0, none⟩) y3).trans p0
                 have e1 := (hv1.cell (p := ⟨w.heap.size, 1, none⟩) y3).trans p1
                 have e2 := (hv1.cell (p := ⟨b, off + k, none⟩) hbx).trans hc))
          all_goals go_wp2_with (fail)
          all_goals go_ret
          all_goals exact ⟨ret_bool (by rw [Hfin.out]), hb3⟩
        | false =>
          rw [hha] at hsu
          have hsu1 : ordP sss xs (k + 1) = true := by rw [hsu]; rfl
          have Hsu := Lib.hid hsu1
          clear hsu hsu1
          go_wp2_with (fail)
          have hIx : IsStk wr.drew A n c sss := HIr.out
          have HIx := Lib.hid hIx
          clear hIx
          go_region_held3 (fun w' => w'.cell? ⟨w.heap.size, 0, none⟩ = some (.int .i64 hi) ∧ w'.cell? ⟨w.heap.size, 1, none⟩ = some (.slice A n c) ∧ w'.cell? ⟨b, off + k, none⟩ = some (.int .i64 u)) (first | (go_keep; done) | exact ⟨e0, e1, e2⟩)
            (first
              | (go_at_call 40; refine (l1Has_any _ _ _ _ _ _ hcut1).mono ?_; rintro e w' ⟨rfl, rfl⟩; rw [hha])
              | (go_at_call 17; refine (specYardFind_any _ _ _ _ _ _ _ HIx.out hn).mono ?_; rintro e v1 ⟨rfl, hv1⟩; rw [Hq.out]
                 have hb3 := (hbr.drew).trans (hv1.mono hsr)
                 have hcut1 := Ints.below (w := wr.drew) Hcut.out hv1
                 have hy2 := Yd.below (w := wr.drew) Hyd.out hv1
                 have e0 := (hv1.cell (p := ⟨w.heap.size, 0, none⟩) y3).trans p0
                 have e1 := (hv1.cell (p := ⟨w.heap.size, 1, none⟩) y3).trans p1
                 have e2 := (hv1.cell (p := ⟨b, off + k, none⟩) hbx).trans hc))
          all_goals go_wp2_with (fail)
          all_goals exact ⟨⟨k + 1, by omega, by go_num, (fun _ => hv), Hsu.out, hy2, hb3⟩, by simp [intOf]; omega⟩
    · obtain rfl : k = n' := by omega
      have hfin : ordB hi sss xs = yardB hi sss := by rw [ordB, Hl'.out, hok, Bool.and_true]
      have Hfin := Lib.hid hfin
      have hIr := H.out.below hbr
      clear hfin hok
      go_wp2_with (go_at_call 13; refine (specYardValid_any _ _ _ _ _ _ hIr hn).mono ?_; rintro e v1 ⟨rfl, hv1⟩; have hb3 := hbr.trans (hv1.mono hsr))
      go_ret
      exact ⟨ret_bool (by rw [Hfin.out]), hb3⟩
end Go.Proofs.Yteghialkkhmggaa
