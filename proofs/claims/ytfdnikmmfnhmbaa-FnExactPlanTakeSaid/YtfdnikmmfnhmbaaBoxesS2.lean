/- spec.BoxesValid at slices that read as lists. Conditions: that the slice reads as the list. -/
import Derived.Test.YtfdnikmmfnhmbaaBoxesS
namespace Go.Proofs.Ytfdnikmmfnhmbaa
open Go.RowKit
set_option linter.unusedVariables false

set_option maxHeartbeats 1600000 in
theorem specBoxesValid_any (A : Option Addr) (n c : Nat) (bs : List Bx) (w : World) (h : IsBoxes w A n c bs) :
    Calls Try.prog 39 #[.slice A n c] w fun e w' => e = .returned (.bool (boxesB bs)) ∧ Below w.heap.size w w' := by
  have hlen := h.len
  have Hl := Lib.hid h.length
  have H := Lib.hid h
  clear h
  go_enter Try.func39, Try.ntmps39
  go_wp2_with (fail)
  go_loopw [3] (fun i wr => ∃ k : Nat, k ≤ n ∧ i = .int .i64 k ∧ okBB bs k = true ∧ Below w.heap.size w wr) (fun i _ => n - (intOf i).toNat)
  case atStart => exact ⟨0, by omega, rfl, rfl, Below.refl _ _⟩
  case round =>
    obtain ⟨k, hk, rfl, hok, hbw⟩ := hrel
    have hsw := hbw.size
    by_cases hlt : k < n
    · have hlt' : (k : Int) < n := by omega
      have hk0 : (0 : Int) ≤ k := by omega
      obtain ⟨b, off, hA, hb, hc⟩ := H.out.at_ hlt
      subst hA
      have hsu := okBB_succ bs k
      rw [hok, Bool.true_and] at hsu
      have hno := boxesB_no bs k (by rw [Hl.out]; exact hlt)
      have hix := ixOf_take (idsB bs) (bs.getD k default).id k (by rw [idsB_len, Hl.out]; exact hlt) (idsB_get bs k (by rw [Hl.out]; exact hlt))
      rw [show (idsB bs).take k = idsB (bs.take k) by simp [idsB, List.map_take]] at hix
      have hI := H.out.below hbw
      obtain ⟨hc0, hc1, hc2, hc3, hc4⟩ := hc
      have d0 := (hbw.cell (p := ⟨b, off + k * 5, none⟩) hb).trans hc0
      have d1 := (hbw.cell (p := ⟨b, off + k * 5 + 1, none⟩) hb).trans hc1
      have d2 := (hbw.cell (p := ⟨b, off + k * 5 + 2, none⟩) hb).trans hc2
      have d3 := (hbw.cell (p := ⟨b, off + k * 5 + 3, none⟩) hb).trans hc3
      have d4 := (hbw.cell (p := ⟨b, off + k * 5 + 4, none⟩) hb).trans hc4
      have hbr := Nat.lt_of_lt_of_le hb hsw
      obtain ⟨y, hy⟩ : ∃ y, bs.getD k default = y := ⟨_, rfl⟩
      rw [hy] at d0 d1 d2 d3 d4 hsu hix
      have Hno := Lib.hid hno
      have HI := Lib.hid hI
      clear hy hno hI hc0 hc1 hc2 hc3 hc4 hok
      cases hv : bxB y with
      | false =>
        have hv' : boxB y.id y.wt y.cl y.po = false := hv
        rw [hv, Bool.false_and] at hsu
        have hfin := Hno.out hsu
        have Hfin := Lib.hid hfin
        clear hfin hsu hix
        go_wp2_with (first
            | (go_at_call 56; refine (specBoxValid_any _ _ _ _ _ _).mono ?_; rintro e v1 ⟨rfl, hb1⟩; rw [hv']; have hbb := hbw.trans (hb1.mono hsw); have f0 := (hb1.cell (p := ⟨b, off + k * 5, none⟩) hbr).trans d0; have hI1 := HI.out.below hb1)
            | (go_at_call 41; refine (l2Find_any _ _ _ _ _ _ hI1).mono ?_; rintro e w' ⟨rfl, rfl⟩))
        all_goals go_ret
        all_goals exact ⟨ret_bool (by rw [Hfin.out]), hbb⟩
      | true =>
        have hv' : boxB y.id y.wt y.cl y.po = true := hv
        rw [hv, Bool.true_and] at hsu
        obtain ⟨q, hq⟩ : ∃ q, ixOf (idsB bs) y.id = q := ⟨_, rfl⟩
        rw [hq] at hix
        have Hq := Lib.hid hq
        by_cases hi : q < k
        · rw [decide_eq_false (hix.1 hi)] at hsu
          have hfin := Hno.out hsu
          have Hfin := Lib.hid hfin
          clear hfin hsu hix hq
          go_wp2_with (first
            | (go_at_call 56; refine (specBoxValid_any _ _ _ _ _ _).mono ?_; rintro e v1 ⟨rfl, hb1⟩; rw [hv']; have hbb := hbw.trans (hb1.mono hsw); have f0 := (hb1.cell (p := ⟨b, off + k * 5, none⟩) hbr).trans d0; have hI1 := HI.out.below hb1)
            | (go_at_call 41; refine (l2Find_any _ _ _ _ _ _ hI1).mono ?_; rintro e w' ⟨rfl, rfl⟩; rw [Hq.out]))
          all_goals go_ret
          all_goals exact ⟨ret_bool (by rw [Hfin.out]), hbb⟩
        · rw [decide_eq_true (by have := mt hix.2 hi; omega)] at hsu
          have Hsu := Lib.hid hsu
          clear hsu hix hq
          go_wp2_with (first
            | (go_at_call 56; refine (specBoxValid_any _ _ _ _ _ _).mono ?_; rintro e v1 ⟨rfl, hb1⟩; rw [hv']; have hbb := hbw.trans (hb1.mono hsw); have f0 := (hb1.cell (p := ⟨b, off + k * 5, none⟩) hbr).trans d0; have hI1 := HI.out.below hb1)
            | (go_at_call 41; refine (l2Find_any _ _ _ _ _ _ hI1).mono ?_; rintro e w' ⟨rfl, rfl⟩; rw [Hq.out]))
          all_goals exact ⟨⟨k + 1, by omega, by go_num, Hsu.out, hbb⟩, by simp [intOf]; omega⟩
    · obtain rfl : k = n := by omega
      have hfin : boxesB bs = decide (k ≤ 10) := by simp [boxesB, Hl.out, hok]
      have Hfin := Lib.hid hfin
      clear hfin hok
      go_wp2_with (fail)
      all_goals go_ret
      all_goals exact ⟨ret_bool (by rw [Hfin.out]; simp; omega), hbw⟩
end Go.Proofs.Ytfdnikmmfnhmbaa
