/- The two OrderOk. Conditions: that the slices read as lists. -/
import Derived.Test.YteghialkkhmggaaYardF
namespace Go.Proofs.Yteghialkkhmggaa
open Go.RowKit
set_option linter.unusedVariables false

/-- the first k ids of an order lie in the yard's stacks, and none comes twice -/
def ordP (sss : List (List Int)) (xs : List Int) (k : Nat) : Bool := (List.range k).all fun i => decide (0 ≤ ixS sss (xs.getD i 0)) && !hasB (xs.take i) (xs.getD i 0)
theorem ordP_succ (sss : List (List Int)) (xs : List Int) (k : Nat) : ordP sss xs (k + 1) = (ordP sss xs k && (decide (0 ≤ ixS sss (xs.getD k 0)) && !hasB (xs.take k) (xs.getD k 0))) := by simp [ordP, List.range_succ]
theorem ordP_le (sss : List (List Int)) (xs : List Int) (k n : Nat) (h : k ≤ n) (hn : ordP sss xs n = true) : ordP sss xs k = true := by
  simp only [ordP, List.all_eq_true, List.mem_range] at hn ⊢
  exact fun x hx => hn x (by omega)
def ordB (hi : Int) (sss : List (List Int)) (xs : List Int) : Bool := yardB hi sss && ordP sss xs xs.length
theorem ordB_no {hi : Int} {sss : List (List Int)} {xs : List Int} (k : Nat) (hk : k < xs.length) (h : ordP sss xs (k + 1) = false) : ordB hi sss xs = false := by
  cases e : ordB hi sss xs with
  | false => rfl
  | true =>
    simp only [ordB, Bool.and_eq_true] at e
    rw [ordP_le sss xs (k + 1) _ (by omega) e.2] at h
    cases h

set_option maxHeartbeats 3200000 in
theorem implOrderOk_any (hi : Int) (A : Option Addr) (n c : Nat) (sss : List (List Int)) (A' : Option Addr) (n' c' : Nat) (xs : List Int) (w : World) (h : IsStk w A n c sss) (h' : Ints w A' n' c' xs) :
    Calls Try.prog 27 #[.agg #[.int .i64 hi, .slice A n c], .slice A' n' c'] w fun e w' => e = .returned (.bool (ordB hi sss xs)) ∧ Below w.heap.size w w' := by
  have H := Lib.hid h
  have H' := Lib.hid h'
  have Hl' := Lib.hid h'.length
  have hlen' := h'.len
  clear h h'
  cases hv : yardB hi sss with
  | false =>
    have hfin : ordB hi sss xs = false := by simp [ordB, hv]
    have Hfin := Lib.hid hfin
    clear hfin
    go_enter Try.func27, Try.ntmps27
    go_wp2_with (go_at_call 15; refine (implYardValid_any _ _ _ _ _ _ (H.out.alloc _)).mono ?_; rintro e w1 ⟨rfl, hb0⟩; rw [hv]; have hb1 : Below w.heap.size w w1 := (by repeat' (first | with_reducible exact Below.refl _ _ | with_reducible assumption | with_reducible refine bel_step (by with_reducible assumption) ?_ ?_ | with_reducible refine Below.drew ?_ | with_reducible refine below_drewN ?_ _ | with_reducible refine Below.alloc ?_ ?_ _ | with_reducible refine Below.setCell ?_ ?_ _ | (simp; done) | (simp; omega) | omega | with_reducible refine below_le (by with_reducible assumption) ?_)))
    go_ret
    exact ⟨ret_bool (by rw [Hfin.out]), hb1⟩
  | true =>
    go_enter Try.func27, Try.ntmps27
    go_wp2_with (first
      | (go_at_call 15; refine (implYardValid_any _ _ _ _ _ _ (H.out.alloc _)).mono ?_; rintro e w1 ⟨rfl, hb0⟩; rw [hv]
         have hb1 : Below w.heap.size w w1 := (by repeat' (first | with_reducible exact Below.refl _ _ | with_reducible assumption | with_reducible refine bel_step (by with_reducible assumption) ?_ ?_ | with_reducible refine Below.drew ?_ | with_reducible refine below_drewN ?_ _ | with_reducible refine Below.alloc ?_ ?_ _ | with_reducible refine Below.setCell ?_ ?_ _ | (simp; done) | (simp; omega) | omega | with_reducible refine below_le (by with_reducible assumption) ?_))
         have hy1 : Yd w1 w.heap.size hi A n c := Yd.below (w := w.alloc _) ⟨by simp, by go_simp, by go_simp⟩ hb0
         clear hb0))
    go_loopw [12] (fun i wr => ∃ k : Nat, k ≤ n' ∧ i = .int .i64 k ∧ ordP sss xs k = true ∧ Yd wr w.heap.size hi A n c ∧ Below w.heap.size w wr) (fun i _ => n' - (intOf i).toNat)
    case atStart => exact ⟨0, by omega, rfl, rfl, hy1, hb1⟩
    case round =>
      clear hy1 hb1
      obtain ⟨k, hk, rfl, hok, hyd, hbr⟩ := hrel
      have hsr := hbr.size
      have Hyd := Lib.hid hyd
      obtain ⟨y3, p0, p1⟩ := id hyd
      clear hyd
      by_cases hlt : k < n'
      · have hlt' : (k : Int) < n' := by omega
        have hk0 : (0 : Int) ≤ k := by omega
        obtain ⟨b, off, hA, hb, hc0⟩ := H'.out.at_ hlt
        subst hA
        have hc := (hbr.cell (p := ⟨b, off + k, none⟩) hb).trans hc0
        have hIr := H.out.below hbr
        have hcut := (H'.out.cut (k := k) (by omega)).below hbr
        have hkc : (k : Int) ≤ c' := by have := H'.out.1; omega
        have hsu := ordP_succ sss xs k
        rw [hok, Bool.true_and] at hsu
        have hno := ordB_no (hi := hi) (sss := sss) k (show k < xs.length by rw [Hl'.out]; exact hlt)
        obtain ⟨u, hu⟩ : ∃ u, xs.getD k 0 = u := ⟨_, rfl⟩
        rw [hu] at hc hsu
        obtain ⟨ys, hys⟩ : ∃ ys, xs.take k = ys := ⟨_, rfl⟩
        rw [hys] at hsu hcut
        obtain ⟨q, hq⟩ : ∃ q, ixS sss u = q := ⟨_, rfl⟩
        rw [hq] at hsu
        have Hno := Lib.hid hno
        have Hcut := Lib.hid hcut
        have HIr := Lib.hid hIr
        have Hq := Lib.hid hq
        clear hno hcut hIr hok hys hq hu hc0
        by_cases hq0 : q < 0
        · rw [decide_eq_false (show ¬ 0 ≤ q by omega)] at hsu
          have hfin := Hno.out (by rw [hsu]; rfl)
          have Hfin := Lib.hid hfin
          clear hfin hsu
          go_wp2_with (go_at_call 46; refine (find_any _ _ _ _ _ _ _ HIr.out).mono ?_; rintro e w2 ⟨rfl, hb2⟩; rw [Hq.out]; have hb3 := hbr.trans (hb2.mono hsr))
          go_ret
          exact ⟨ret_bool (by rw [Hfin.out]), hb3⟩
        · obtain ⟨m, rfl⟩ := Int.eq_ofNat_of_zero_le (show 0 ≤ q by omega)
          rw [decide_eq_true (show (0 : Int) ≤ m by omega), Bool.true_and] at hsu
          clear hq0
          cases hha : hasB ys u with
          | true =>
            rw [hha] at hsu
            have hfin := Hno.out (by rw [hsu]; rfl)
            have Hfin := Lib.hid hfin
            clear hfin hsu
            go_wp2_with (first
              | (go_at_call 52; refine (contains_any _ _ _ _ _ _ hcut1).mono ?_; rintro e w' ⟨rfl, rfl⟩; rw [hha])
              | (go_at_call 46; refine (find_any _ _ _ _ _ _ _ HIr.out).mono ?_; rintro e w2 ⟨rfl, hb2⟩; rw [Hq.out]; have hb3 := hbr.trans (hb2.mono hsr); have hcut1 := Hcut.out.below hb2))
            go_ret
            exact ⟨ret_bool (by rw [Hfin.out]), hb3⟩
          | false =>
            rw [hha] at hsu
            have hsu1 : ordP sss xs (k + 1) = true := by rw [hsu]; rfl
            have Hsu := Lib.hid hsu1
            clear hsu hsu1
            go_wp2_with (first
              | (go_at_call 52; refine (contains_any _ _ _ _ _ _ hcut1).mono ?_; rintro e w' ⟨rfl, rfl⟩; rw [hha])
              | (go_at_call 46; refine (find_any _ _ _ _ _ _ _ HIr.out).mono ?_; rintro e w2 ⟨rfl, hb2⟩; rw [Hq.out]; have hb3 := hbr.trans (hb2.mono hsr); have hcut1 := Hcut.out.below hb2; have hy2 := Hyd.out.below hb2))
            exact ⟨⟨k + 1, by omega, by go_num, Hsu.out, hy2, hb3⟩, by simp [intOf]; omega⟩
      · obtain rfl : k = n' := by omega
        have hfin : ordB hi sss xs = true := by rw [ordB, hv, Hl'.out, hok]; rfl
        have Hfin := Lib.hid hfin
        clear hfin hok
        go_wp2_with (fail)
        go_ret
        exact ⟨ret_bool (by rw [Hfin.out]), hbr⟩
end Go.Proofs.Yteghialkkhmggaa
