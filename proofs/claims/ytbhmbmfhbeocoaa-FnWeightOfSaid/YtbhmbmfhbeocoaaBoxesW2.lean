/- spec.WeightOf at slices that read as lists. Conditions: that the slices read as the lists. -/
import Derived.Test.YtbhmbmfhbeocoaaBoxesW
namespace Go.Proofs.Ytbhmbmfhbeocoaa
open Go.RowKit
set_option linter.unusedVariables false

set_option maxHeartbeats 800000 in
theorem specWeightOf_any (A : Option Addr) (n c : Nat) (bs : List Bx) (A' : Option Addr) (n' c' : Nat) (ids : List Int) (w : World) (h : IsBoxes w A n c bs) (h' : Ints w A' n' c' ids) :
    Calls Try.prog 21 #[.slice A n c, .slice A' n' c'] w fun e w' => e = .returned (.int .i64 (weightV bs ids)) ∧ Below w.heap.size w w' := by
  have H := Lib.hid h
  have H' := Lib.hid h'
  have Hl' := Lib.hid h'.length
  have hlen' := h'.len
  clear h h'
  cases hv : boxesB bs with
  | false =>
    go_enter Try.func21, Try.ntmps21
    go_wp2_with (fail)
    go_loopw [5, 6] (fun q i wr => q = .int .i64 0 ∧ i = .int .i64 0 ∧ Below w.heap.size w wr) (fun _ _ _ => 0)
    case atStart => exact ⟨rfl, rfl, Below.refl _ _⟩
    case round =>
      obtain ⟨rfl, rfl, hbw⟩ := hrel
      have hsw := hbw.size
      have HI := Lib.hid (H.out.below hbw)
      by_cases hlt : 0 < n'
      · have hlt' : (0 : Int) < n' := by omega
        obtain ⟨b, off, hA, hb, hc⟩ := H'.out.at_ hlt
        subst hA
        have hc := (hbw.cell (p := ⟨b, off + 0, none⟩) hb).trans hc
        rw [Nat.add_zero] at hc
        obtain ⟨x, hx⟩ : ∃ x, ids.getD 0 0 = x := ⟨_, rfl⟩
        rw [hx] at hc
        clear hx
        go_wp2_with (go_at_call 19; refine (specFindBox_any _ _ _ _ _ _ HI.out).mono ?_; rintro e w2 ⟨rfl, hb2⟩; rw [findV, hv, if_neg (by decide)]; have hb3 := hbw.trans (hb2.mono hsw))
        go_ret
        exact ⟨by simp [weightV, hv], hb3⟩
      · obtain rfl : n' = 0 := by omega
        go_wp2_with (go_at_call 15; refine (specBoxesValid_any _ _ _ _ _ HI.out).mono ?_; rintro e w2 ⟨rfl, hb2⟩; rw [hv]; have hb3 := hbw.trans (hb2.mono hsw))
        go_ret
        exact ⟨by simp [weightV, hv], hb3⟩
  | true =>
    go_enter Try.func21, Try.ntmps21
    go_wp2_with (fail)
    go_loopw [5, 6] (fun q i wr => ∃ (k : Nat) (t : Int), k ≤ n' ∧ i = .int .i64 k ∧ q = .int .i64 t ∧ wSum bs ids 0 = wSum bs (ids.drop k) t ∧ Below w.heap.size w wr) (fun _ i _ => n' - (intOf i).toNat)
    case atStart => exact ⟨0, 0, by omega, rfl, rfl, rfl, Below.refl _ _⟩
    case round =>
      obtain ⟨k, t, hk, rfl, rfl, hsum, hbw⟩ := hrel
      have hsw := hbw.size
      by_cases hlt : k < n'
      · have hlt' : (k : Int) < n' := by omega
        have hk0 : (0 : Int) ≤ k := by omega
        obtain ⟨b, off, hA, hb, hc⟩ := H'.out.at_ hlt
        subst hA
        have hc := (hbw.cell (p := ⟨b, off + k, none⟩) hb).trans hc
        rw [wSum_at (by rw [Hl'.out]; exact hlt)] at hsum
        obtain ⟨x, hx⟩ : ∃ x, ids.getD k 0 = x := ⟨_, rfl⟩
        rw [hx] at hc hsum
        have HI := Lib.hid (H.out.below hbw)
        have i1 := ixOf_lt (idsB bs) x
        rw [idsB_len, H.out.length] at i1
        obtain ⟨q, hq⟩ : ∃ q, ixOf (idsB bs) x = q := ⟨_, rfl⟩
        rw [hq] at hsum i1
        have Hq := Lib.hid hq
        clear hq hx
        by_cases hq0 : q < 0
        · rw [if_pos hq0] at hsum
          have Hs := Lib.hid hsum
          clear hsum i1
          go_wp2_with (go_at_call 19; refine (specFindBox_any _ _ _ _ _ _ HI.out).mono ?_; rintro e w2 ⟨rfl, hb2⟩; rw [findV, hv, if_pos rfl, Hq.out]; have hb3 := hbw.trans (hb2.mono hsw))
          go_ret
          exact ⟨by simp [weightV, hv, Hs.out], hb3⟩
        · rw [if_neg hq0] at hsum
          obtain ⟨m, rfl⟩ := Int.eq_ofNat_of_zero_le (show 0 ≤ q by omega)
          have hm : m < n := by omega
          have hm' : (m : Int) < n := by omega
          obtain ⟨b1, off1, hA1, hb1', hc1⟩ := HI.out.at_ hm
          subst hA1
          obtain ⟨_, e1, _⟩ := hc1
          rw [Int.toNat_natCast] at hsum
          obtain ⟨y, hy⟩ : ∃ y, (bs.getD m default).wt = y := ⟨_, rfl⟩
          rw [hy] at hsum e1
          have Hs := Lib.hid hsum
          clear hsum i1 hy
          go_wp2_with (go_at_call 19; refine (specFindBox_any _ _ _ _ _ _ HI.out).mono ?_; rintro e w2 ⟨rfl, hb2⟩; rw [findV, hv, if_pos rfl, Hq.out]; have hb3 := hbw.trans (hb2.mono hsw); have e2 := (hb2.cell (p := ⟨b1, off1 + m * 5 + 1, none⟩) hb1').trans e1)
          exact ⟨⟨k + 1, _, by omega, by go_num, rfl, (by rw [Hs.out, IntWalk.i64_left]), hb3⟩, by simp [intOf]; omega⟩
      · obtain rfl : k = n' := by omega
        have : ids.drop k = [] := List.drop_eq_nil_of_le (by rw [Hl'.out]; omega)
        rw [this, wSum] at hsum
        have Hs := Lib.hid hsum
        clear hsum
        have HI := Lib.hid (H.out.below hbw)
        go_wp2_with (go_at_call 15; refine (specBoxesValid_any _ _ _ _ _ HI.out).mono ?_; rintro e w2 ⟨rfl, hb2⟩; rw [hv]; have hb3 := hbw.trans (hb2.mono hsw))
        go_ret
        exact ⟨by simp [weightV, hv, Hs.out], hb3⟩
end Go.Proofs.Ytbhmbmfhbeocoaa
