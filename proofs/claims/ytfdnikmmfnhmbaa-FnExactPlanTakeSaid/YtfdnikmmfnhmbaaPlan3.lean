/- The two PlanFind. Conditions: that the slices read as lists. -/
import Derived.Test.YtfdnikmmfnhmbaaPlan2
namespace Go.Proofs.Ytfdnikmmfnhmbaa
open Go.RowKit
set_option linter.unusedVariables false

def findP (b r t : Int) (bs : List Bx) (xs : List Int) (id : Int) : Int := if planB b r t bs xs && decide (0 < id) then ixOf xs id else -1

set_option maxHeartbeats 800000 in
theorem implPlanFind_any (b r t : Int) (A : Option Addr) (n c : Nat) (bs : List Bx) (A' : Option Addr) (n' c' : Nat) (xs : List Int) (id : Int) (w : World) (h : IsBoxes w A n c bs) (h' : Ints w A' n' c' xs) :
    Calls Try.prog 23 #[.agg #[.int .i64 b, .int .i64 r, .int .i64 t], .slice A n c, .slice A' n' c', .int .i64 id] w fun e w' => e = .returned (.int .i64 (findP b r t bs xs id)) ∧ Below w.heap.size w w' := by
  have H := Lib.hid h
  have H' := Lib.hid h'
  clear h h'
  cases hp : planB b r t bs xs with
  | false =>
    have hfin : findP b r t bs xs id = -1 := by simp [findP, hp]
    have Hfin := Lib.hid hfin
    clear hfin
    go_enter Try.func23, Try.ntmps23
    go_wp2_with (go_at_call 20; refine (implPlanValid_any _ _ _ _ _ _ _ _ _ _ _ _ (H.out.alloc _) (H'.out.alloc _)).mono ?_; rintro e w1 ⟨rfl, hb0⟩; rw [hp]; have hb1 : Below w.heap.size w w1 := (by repeat' (first | with_reducible exact Below.refl _ _ | with_reducible assumption | with_reducible refine bel_step (by with_reducible assumption) ?_ ?_ | with_reducible refine Below.drew ?_ | with_reducible refine below_drewN ?_ _ | with_reducible refine Below.alloc ?_ ?_ _ | with_reducible refine Below.setCell ?_ ?_ _ | (simp; done) | (simp; omega) | omega | with_reducible refine below_le (by with_reducible assumption) ?_)))
    go_ret
    exact ⟨ret_int (by rw [Hfin.out]), hb1⟩
  | true =>
    by_cases hi : id < 1
    · have hfin : findP b r t bs xs id = -1 := by
        have : ¬ 0 < id := by omega
        simp [findP, this]
      have Hfin := Lib.hid hfin
      clear hfin
      go_enter Try.func23, Try.ntmps23
      go_wp2_with (go_at_call 20; refine (implPlanValid_any _ _ _ _ _ _ _ _ _ _ _ _ (H.out.alloc _) (H'.out.alloc _)).mono ?_; rintro e w1 ⟨rfl, hb0⟩; rw [hp]; have hb1 : Below w.heap.size w w1 := (by repeat' (first | with_reducible exact Below.refl _ _ | with_reducible assumption | with_reducible refine bel_step (by with_reducible assumption) ?_ ?_ | with_reducible refine Below.drew ?_ | with_reducible refine below_drewN ?_ _ | with_reducible refine Below.alloc ?_ ?_ _ | with_reducible refine Below.setCell ?_ ?_ _ | (simp; done) | (simp; omega) | omega | with_reducible refine below_le (by with_reducible assumption) ?_)))
      go_ret
      exact ⟨ret_int (by rw [Hfin.out]), hb1⟩
    · have hfin : findP b r t bs xs id = ixOf xs id := by
        have : 0 < id := by omega
        simp [findP, this, hp]
      have Hfin := Lib.hid hfin
      clear hfin
      go_enter Try.func23, Try.ntmps23
      go_wp2_with (first
        | (go_at_call 20; refine (implPlanValid_any _ _ _ _ _ _ _ _ _ _ _ _ (H.out.alloc _) (H'.out.alloc _)).mono ?_; rintro e w1 ⟨rfl, hb0⟩; rw [hp]; have hb1 : Below w.heap.size w w1 := (by repeat' (first | with_reducible exact Below.refl _ _ | with_reducible assumption | with_reducible refine bel_step (by with_reducible assumption) ?_ ?_ | with_reducible refine Below.drew ?_ | with_reducible refine below_drewN ?_ _ | with_reducible refine Below.alloc ?_ ?_ _ | with_reducible refine Below.setCell ?_ ?_ _ | (simp; done) | (simp; omega) | omega | with_reducible refine below_le (by with_reducible assumption) ?_)); have hI1 := H'.out.below hb1)
        | (go_at_call 49; refine (index_any _ _ _ _ _ _ hI1).mono ?_; rintro e w2 ⟨rfl, rfl⟩))
      go_ret
      exact ⟨ret_int (by rw [Hfin.out]), hb1⟩

set_option maxHeartbeats 1600000 in
theorem specPlanFind_any (b r t : Int) (A : Option Addr) (n c : Nat) (bs : List Bx) (A' : Option Addr) (n' c' : Nat) (xs : List Int) (id : Int) (w : World) (h : IsBoxes w A n c bs) (h' : Ints w A' n' c' xs) :
    Calls Try.prog 22 #[.agg #[.int .i64 b, .int .i64 r, .int .i64 t], .slice A n c, .slice A' n' c', .int .i64 id] w fun e w' => e = .returned (.int .i64 (findP b r t bs xs id)) ∧ Below w.heap.size w w' := by
  have H := Lib.hid h
  have H' := Lib.hid h'
  have Hl' := Lib.hid h'.length
  have hlen' := h'.len
  clear h h'
  by_cases hi : id < 1
  · have hi' : ¬ 0 < id := by omega
    have hfin : findP b r t bs xs id = -1 := by simp [findP, hi']
    have Hfin := Lib.hid hfin
    clear hfin
    go_enter Try.func22, Try.ntmps22
    go_wp2_with (fail)
    go_loopw [9] (fun i wr => i = .int .i64 0 ∧ Below w.heap.size w wr) (fun _ _ => 0)
    case atStart => exact ⟨rfl, (by repeat' (first | with_reducible exact Below.refl _ _ | with_reducible assumption | with_reducible refine bel_step (by with_reducible assumption) ?_ ?_ | with_reducible refine Below.drew ?_ | with_reducible refine below_drewN ?_ _ | with_reducible refine Below.alloc ?_ ?_ _ | with_reducible refine Below.setCell ?_ ?_ _ | (simp; done) | (simp; omega) | omega | with_reducible refine below_le (by with_reducible assumption) ?_))⟩
    case round =>
      obtain ⟨rfl, hbr⟩ := hrel
      by_cases h0 : 0 < n'
      · have h0' : (0 : Int) < n' := by omega
        go_wp2_with (fail)
        go_ret
        exact ⟨ret_int (by rw [Hfin.out]), hbr⟩
      · obtain rfl : n' = 0 := by omega
        go_wp2_with (fail)
        go_ret
        exact ⟨ret_int (by rw [Hfin.out]), hbr⟩
  · have hi0 : 0 < id := by omega
    have hi1 : (id > 0) = True := by simp; omega
    have h3 : Hull3 (w.alloc (.cells #[.int .i64 b, .int .i64 r, .int .i64 t] 26)) w.heap.size b r t := ⟨by simp, by go_simp, by go_simp, by go_simp⟩
    have hb0 : Below w.heap.size w (w.alloc (.cells #[.int .i64 b, .int .i64 r, .int .i64 t] 26)) := (Below.refl _ _).alloc (Nat.le_refl _) _
    have hIa := H.out.alloc (.cells #[.int .i64 b, .int .i64 r, .int .i64 t] 26)
    have H3 := Lib.hid h3
    have HIa := Lib.hid hIa
    clear h3 hIa hi
    cases hp : planB b r t bs xs with
    | false =>
      have hfin : findP b r t bs xs id = -1 := by simp [findP, hp]
      have Hfin := Lib.hid hfin
      clear hfin
      go_enter Try.func22, Try.ntmps22
      go_wp2_with (fail)
      go_loopw [9] (fun i wr => i = .int .i64 0 ∧ Hull3 wr w.heap.size b r t ∧ IsBoxes wr A n c bs ∧ Below w.heap.size w wr) (fun _ _ => 0)
      case atStart => exact ⟨rfl, H3.out, HIa.out, hb0⟩
      case round =>
        obtain ⟨rfl, hHr, hIr, hbr⟩ := hrel
        have hsr := hbr.size
        have hJr := H'.out.below hbr
        obtain ⟨y3, p0, p1, p2⟩ := hHr
        by_cases h0 : 0 < n'
        · have h0' : (0 : Int) < n' := by omega
          go_wp2_with (go_at_call 17; refine (specPlanValid_any _ _ _ _ _ _ _ _ _ _ _ _ hIr hJr).mono ?_; rintro e w1 ⟨rfl, hb1⟩; rw [hp]; have hb2 := hbr.trans (hb1.mono hsr))
          go_ret
          exact ⟨ret_int (by rw [Hfin.out]), hb2⟩
        · obtain rfl : n' = 0 := by omega
          go_wp2_with (fail)
          go_ret
          exact ⟨ret_int (by rw [Hfin.out]), hbr⟩
    | true =>
      have hfin : findP b r t bs xs id = ixOf xs id := by simp [findP, hp, hi0]
      have Hfin := Lib.hid hfin
      clear hfin
      go_enter Try.func22, Try.ntmps22
      go_wp2_with (fail)
      go_loopw [9] (fun i wr => ∃ k : Nat, k ≤ n' ∧ i = .int .i64 k ∧ NoX xs id k ∧ Hull3 wr w.heap.size b r t ∧ IsBoxes wr A n c bs ∧ Below w.heap.size w wr) (fun i _ => n' - (intOf i).toNat)
      case atStart => exact ⟨0, by omega, rfl, NoX.zero _ _, H3.out, HIa.out, hb0⟩
      case round =>
        obtain ⟨k, hk, rfl, hno, hHr, hIr, hbr⟩ := hrel
        have hsr := hbr.size
        have hJr := H'.out.below hbr
        have Hno := Lib.hid hno
        have HHr := Lib.hid hHr
        obtain ⟨y3, p0, p1, p2⟩ := hHr
        clear hno
        by_cases hlt : k < n'
        · have hlt' : (k : Int) < n' := by omega
          have hk0 : (0 : Int) ≤ k := by omega
          obtain ⟨g, off, hA, hg, hc⟩ := H'.out.at_ hlt
          subst hA
          have hc1 := (hbr.cell (p := ⟨g, off + k, none⟩) hg).trans hc
          have hgr := Nat.lt_of_lt_of_le hg hsr
          obtain ⟨v, hv⟩ : ∃ v, xs.getD k 0 = v := ⟨_, rfl⟩
          rw [hv] at hc1
          have Hv := Lib.hid hv
          clear hv hc
          cases hx : (v == id) with
          | true =>
            have hfin := ixOf_found xs id k (by rw [Hl'.out]; exact hlt) (by rw [Hv.out]; exact beq_iff_eq.1 hx) Hno.out
            have Hfin2 := Lib.hid hfin
            clear hfin
            go_wp2_with (go_at_call 17; refine (specPlanValid_any _ _ _ _ _ _ _ _ _ _ _ _ hIr hJr).mono ?_; rintro e w1 ⟨rfl, hb1⟩; rw [hp]; have hb2 := hbr.trans (hb1.mono hsr); have hcv := (hb1.cell (p := ⟨g, off + k, none⟩) hgr).trans hc1)
            go_ret
            exact ⟨ret_int (by rw [Hfin.out, Hfin2.out]), hb2⟩
          | false =>
            have hn1 := Hno.out.succ (by rw [Hv.out]; exact beq_eq_false_iff_ne.1 hx)
            have Hn1 := Lib.hid hn1
            clear hn1
            go_wp2_with (go_at_call 17; refine (specPlanValid_any _ _ _ _ _ _ _ _ _ _ _ _ hIr hJr).mono ?_; rintro e w1 ⟨rfl, hb1⟩; rw [hp]; have hb2 := hbr.trans (hb1.mono hsr); have hcv := (hb1.cell (p := ⟨g, off + k, none⟩) hgr).trans hc1; have hH1 := HHr.out.below hb1; have hI1 := hIr.below hb1)
            exact ⟨⟨k + 1, by omega, by go_num, Hn1.out, hH1, hI1, hb2⟩, by simp [intOf]; omega⟩
        · obtain rfl : k = n' := by omega
          have hfin := ixOf_none xs id (by rw [Hl'.out]; exact Hno.out)
          have Hfin2 := Lib.hid hfin
          clear hfin
          go_wp2_with (fail)
          go_ret
          exact ⟨ret_int (by rw [Hfin.out, Hfin2.out]), hbr⟩
end Go.Proofs.Ytfdnikmmfnhmbaa
