/- The contracts of the functions on plans: PlanEmpty, impl.PlanValid. Conditions: that the slices read as lists. -/
import Derived.Test.YtfdnikmmfnhmbaaHull
import Derived.Test.YtfdnikmmfnhmbaaBoxesS2
import Derived.Test.YtfdnikmmfnhmbaaApp2
import Derived.Test.YtfdnikmmfnhmbaaBoxOwn
import Derived.Deep.RegionHeld3
namespace Go.Proofs.Ytfdnikmmfnhmbaa
open Go.RowKit
set_option linter.unusedVariables false

def ListPost (w : World) (xs : List Int) (e : Ending) (w' : World) : Prop :=
  ∃ A n c, e = .returned (.slice A n c) ∧ Own w' w.heap.size A n c xs ∧ Below w.heap.size w w'
def emptyL (b r t : Int) : List Int := if hullB b r t then List.replicate (b * r * t).toNat 0 else []
theorem hull_slots {b r t : Int} (h : hullB b r t = true) : ∃ N : Nat, b * r * t = N ∧ 1 ≤ N ∧ N ≤ 36 := by
  obtain ⟨⟨hb, hb'⟩, ⟨hr, hr'⟩, ht, ht'⟩ := hullB_iff.1 h
  obtain ⟨p1, p2⟩ := mul_small (a := b) (b := r) (A := 4) (B := 3) (by omega) hb' (by omega) hr'
  obtain ⟨p3, p4⟩ := mul_small (a := b * r) (b := t) (A := 12) (B := 3) (by omega) (by omega) (by omega) ht'
  have q1 : 1 ≤ b * r := Int.le_trans (by omega) (Int.mul_le_mul hb hr (by omega) (by omega))
  have q2 : 1 ≤ b * r * t := Int.le_trans (by omega) (Int.mul_le_mul q1 ht (by omega) (by omega))
  obtain ⟨N, hN⟩ := Int.eq_ofNat_of_zero_le p3
  exact ⟨N, hN, by omega, by omega⟩

set_option maxHeartbeats 800000 in
theorem implPlanEmpty_any (b r t : Int) (w : World) :
    Calls Try.prog 12 #[.agg #[.int .i64 b, .int .i64 r, .int .i64 t]] w (ListPost w (emptyL b r t)) := by
  cases h : hullB b r t with
  | false =>
    go_enter Try.func12, Try.ntmps12
    go_wp2_with (go_at_call 33; refine (implHullValid_no _ _ _ _ h).mono ?_; rintro e w1 ⟨rfl, hb1⟩; obtain ⟨hc1, hf1⟩ := bcell hb1; have z1 := hb1.size; (try simp at z1); (have y0 : w.heap.size < w1.heap.size := by omega))
    go_ret
    exact ⟨none, 0, 0, rfl, .inl ⟨rfl, rfl, rfl, by simp [emptyL, h]⟩, (by repeat' (first | with_reducible exact Below.refl _ _ | with_reducible assumption | with_reducible refine bel_step (by with_reducible assumption) ?_ ?_ | with_reducible refine Below.drew ?_ | with_reducible refine below_drewN ?_ _ | with_reducible refine Below.alloc ?_ ?_ _ | with_reducible refine Below.setCell ?_ ?_ _ | (simp; done) | (simp; omega) | omega | with_reducible refine below_le (by with_reducible assumption) ?_))⟩
  | true =>
    obtain ⟨N, hN, hN1, hN2⟩ := hull_slots h
    have hmk := run_zeros N (by omega)
    have hx : emptyL b r t = List.replicate N 0 := by simp [emptyL, h, hN]
    have Hx := Lib.hid hx
    clear hx
    go_enter Try.func12, Try.ntmps12
    go_wp2_with (first
      | (go_at_call 33; refine (implHullValid_yes _ _ _ _ h).mono ?_; rintro e w1 ⟨rfl, hb1⟩; obtain ⟨hc1, hf1⟩ := bcell hb1)
      | (go_at_call 38; refine (slots_any _ _ _ _ h).mono ?_; rintro e w2 ⟨rfl, hb2⟩; rw [hN]))
    go_ret
    have hb3 : Below w.heap.size w w2 := (by repeat' (first | with_reducible exact Below.refl _ _ | with_reducible assumption | with_reducible refine bel_step (by with_reducible assumption) ?_ ?_ | with_reducible refine Below.drew ?_ | with_reducible refine below_drewN ?_ _ | with_reducible refine Below.alloc ?_ ?_ _ | with_reducible refine Below.setCell ?_ ?_ _ | (simp; done) | (simp; omega) | omega | with_reducible refine below_le (by with_reducible assumption) ?_))
    exact ⟨_, N, N, rfl, .inr ⟨_, rfl, hb3.size, by rw [Hx.out]; exact zeros_own w2 N (by unfold maxLen; omega)⟩, hb3.alloc hb3.size _⟩

set_option maxHeartbeats 800000 in
theorem specPlanEmpty_any (b r t : Int) (w : World) :
    Calls Try.prog 10 #[.agg #[.int .i64 b, .int .i64 r, .int .i64 t]] w (ListPost w (emptyL b r t)) := by
  cases h : hullB b r t with
  | false =>
    go_enter Try.func10, Try.ntmps10
    go_wp2_with (go_at_call 36; refine (specHullValid_no _ _ _ _ h).mono ?_; rintro e w1 ⟨rfl, hb1⟩)
    go_ret
    have hb3 : Below w.heap.size w w1 := (by repeat' (first | with_reducible exact Below.refl _ _ | with_reducible assumption | with_reducible refine bel_step (by with_reducible assumption) ?_ ?_ | with_reducible refine Below.drew ?_ | with_reducible refine below_drewN ?_ _ | with_reducible refine Below.alloc ?_ ?_ _ | with_reducible refine Below.setCell ?_ ?_ _ | (simp; done) | (simp; omega) | omega | with_reducible refine below_le (by with_reducible assumption) ?_))
    exact ⟨_, 0, 0, rfl, .inr ⟨_, rfl, hb3.size, by simpa [emptyL, h] using empty_own w1⟩, hb3.alloc hb3.size _⟩
  | true =>
    obtain ⟨N, hN, hN1, hN2⟩ := hull_slots h
    have hmk := run_zeros N (by omega)
    have hx : emptyL b r t = List.replicate N 0 := by simp [emptyL, h, hN]
    have hs : slotManyV b r t = N := by simp [slotManyV, h, hN]
    have Hx := Lib.hid hx
    have Hs := Lib.hid hs
    clear hx hs
    go_enter Try.func10, Try.ntmps10
    go_wp2_with (first
      | (go_at_call 36; refine (specHullValid_yes _ _ _ _ h).mono ?_; rintro e w1 ⟨rfl, hb1⟩; obtain ⟨hc1, hf1⟩ := bcell hb1)
      | (go_at_call 37; refine (specSlotMany_any _ _ _ _).mono ?_; rintro e w2 ⟨rfl, hb2⟩; rw [Hs.out]))
    go_ret
    have hb3 : Below w.heap.size w w2 := (by repeat' (first | with_reducible exact Below.refl _ _ | with_reducible assumption | with_reducible refine bel_step (by with_reducible assumption) ?_ ?_ | with_reducible refine Below.drew ?_ | with_reducible refine below_drewN ?_ _ | with_reducible refine Below.alloc ?_ ?_ _ | with_reducible refine Below.setCell ?_ ?_ _ | (simp; done) | (simp; omega) | omega | with_reducible refine below_le (by with_reducible assumption) ?_))
    exact ⟨_, N, N, rfl, .inr ⟨_, rfl, hb3.size, by rw [Hx.out]; exact zeros_own w2 N (by unfold maxLen; omega)⟩, hb3.alloc hb3.size _⟩

def okAt (t : Int) (bs : List Bx) (xs : List Int) (i : Nat) : Bool :=
  xs.getD i 0 == 0 || (decide (0 ≤ ixOf (idsB bs) (xs.getD i 0)) && !hasB (xs.take i) (xs.getD i 0) && !(decide (0 < (i : Int) % t) && xs.getD (i - 1) 0 == 0))
def okP (t : Int) (bs : List Bx) (xs : List Int) (k : Nat) : Bool := (List.range k).all fun i => okAt t bs xs i
theorem okP_succ (t : Int) (bs : List Bx) (xs : List Int) (k : Nat) : okP t bs xs (k + 1) = (okP t bs xs k && okAt t bs xs k) := by simp [okP, List.range_succ]
theorem okP_le (t : Int) (bs : List Bx) (xs : List Int) (k n : Nat) (h : k ≤ n) (hn : okP t bs xs n = true) : okP t bs xs k = true := by
  simp only [okP, List.all_eq_true, List.mem_range] at hn ⊢
  exact fun x hx => hn x (by omega)
def planB (b r t : Int) (bs : List Bx) (xs : List Int) : Bool := hullB b r t && boxesB bs && decide ((xs.length : Int) = b * r * t) && okP t bs xs xs.length
theorem planB_no {b r t : Int} {bs : List Bx} {xs : List Int} (k : Nat) (hk : k < xs.length) (h : okP t bs xs (k + 1) = false) : planB b r t bs xs = false := by
  cases e : planB b r t bs xs with
  | false => rfl
  | true =>
    simp only [planB, Bool.and_eq_true] at e
    rw [okP_le t bs xs (k + 1) _ (by omega) e.2] at h
    cases h

/-- a hull in a local variable -/
def Hull3 (w : World) (g : Nat) (b r t : Int) : Prop := g < w.heap.size ∧ w.cell? ⟨g, 0, none⟩ = some (.int .i64 b) ∧ w.cell? ⟨g, 1, none⟩ = some (.int .i64 r) ∧ w.cell? ⟨g, 2, none⟩ = some (.int .i64 t)
theorem Hull3.below {w w' : World} {g : Nat} {b r t : Int} (h : Hull3 w g b r t) (hb : Below w.heap.size w w') : Hull3 w' g b r t :=
  ⟨Nat.lt_of_lt_of_le h.1 hb.size, (hb.cell (p := ⟨g, 0, none⟩) h.1).trans h.2.1, (hb.cell (p := ⟨g, 1, none⟩) h.1).trans h.2.2.1, (hb.cell (p := ⟨g, 2, none⟩) h.1).trans h.2.2.2⟩

set_option maxHeartbeats 3200000 in
theorem implPlanValid_any (b r t : Int) (A : Option Addr) (n c : Nat) (bs : List Bx) (A' : Option Addr) (n' c' : Nat) (xs : List Int) (w : World) (h : IsBoxes w A n c bs) (h' : Ints w A' n' c' xs) :
    Calls Try.prog 20 #[.agg #[.int .i64 b, .int .i64 r, .int .i64 t], .slice A n c, .slice A' n' c'] w fun e w' => e = .returned (.bool (planB b r t bs xs)) ∧ Below w.heap.size w w' := by
  have H := Lib.hid h
  have H' := Lib.hid h'
  have Hl' := Lib.hid h'.length
  have hlen' := h'.len
  clear h h'
  cases hh : hullB b r t with
  | false =>
    have hfin : planB b r t bs xs = false := by simp [planB, hh]
    have Hfin := Lib.hid hfin
    clear hfin
    go_enter Try.func20, Try.ntmps20
    go_wp2_with (go_at_call 33; refine (implHullValid_no _ _ _ _ hh).mono ?_; rintro e w1 ⟨rfl, hb1⟩)
    go_ret
    exact ⟨ret_bool (by rw [Hfin.out]), (by repeat' (first | with_reducible exact Below.refl _ _ | with_reducible assumption | with_reducible refine bel_step (by with_reducible assumption) ?_ ?_ | with_reducible refine Below.drew ?_ | with_reducible refine below_drewN ?_ _ | with_reducible refine Below.alloc ?_ ?_ _ | with_reducible refine Below.setCell ?_ ?_ _ | (simp; done) | (simp; omega) | omega | with_reducible refine below_le (by with_reducible assumption) ?_))⟩
  | true =>
    cases hv : boxesB bs with
    | false =>
      have hfin : planB b r t bs xs = false := by simp [planB, hv]
      have Hfin := Lib.hid hfin
      clear hfin
      go_enter Try.func20, Try.ntmps20
      go_wp2_with (first
        | (go_at_call 33; refine (implHullValid_yes _ _ _ _ hh).mono ?_; rintro e w1 ⟨rfl, hb1⟩; obtain ⟨hc1, hf1⟩ := bcell hb1; have hz1 := hb1.size; have hb2 : Below w.heap.size w w1 := (by repeat' (first | with_reducible exact Below.refl _ _ | with_reducible assumption | with_reducible refine bel_step (by with_reducible assumption) ?_ ?_ | with_reducible refine Below.drew ?_ | with_reducible refine below_drewN ?_ _ | with_reducible refine Below.alloc ?_ ?_ _ | with_reducible refine Below.setCell ?_ ?_ _ | (simp; done) | (simp; omega) | omega | with_reducible refine below_le (by with_reducible assumption) ?_)); have hI1 := H.out.below hb2)
        | (go_at_call 44; refine (implBoxesValid_any _ _ _ _ _ hI1).mono ?_; rintro e w3 ⟨rfl, hb3⟩; rw [hv]; have hb4 : Below w.heap.size w w3 := hb2.trans (hb3.mono hb2.size)))
      go_ret
      exact ⟨ret_bool (by rw [Hfin.out]), hb4⟩
    | true =>
      obtain ⟨N, hN, hN1, hN2⟩ := hull_slots hh
      obtain ⟨_, _, ht1, ht3⟩ := hullB_iff.1 hh
      by_cases hnN : n' = N
      · subst hnN
        have hplan : okP t bs xs n' = true → planB b r t bs xs = true := by
          intro h
          simp [planB, hh, hv, h, Hl'.out, hN]
        have Hplan := Lib.hid hplan
        clear hplan
        have hN' := Lib.hid hN
        clear hN1
        go_enter Try.func20, Try.ntmps20
        go_wp2_with (first
          | (go_at_call 33; refine (implHullValid_yes _ _ _ _ hh).mono ?_; rintro e w1 ⟨rfl, hb1⟩
             have hH1 : Hull3 w1 w.heap.size b r t := Hull3.below (w := (w.alloc _)) ⟨by simp, by go_simp, by go_simp, by go_simp⟩ hb1
             obtain ⟨hc1, hf1⟩ := bcell hb1
             have hz1 := hb1.size
             have hb2 : Below w.heap.size w w1 := (by repeat' (first | with_reducible exact Below.refl _ _ | with_reducible assumption | with_reducible refine bel_step (by with_reducible assumption) ?_ ?_ | with_reducible refine Below.drew ?_ | with_reducible refine below_drewN ?_ _ | with_reducible refine Below.alloc ?_ ?_ _ | with_reducible refine Below.setCell ?_ ?_ _ | (simp; done) | (simp; omega) | omega | with_reducible refine below_le (by with_reducible assumption) ?_))
             have hI1 := H.out.below hb2
             clear hb1 hc1 hf1 hz1)
          | (go_at_call 44; refine (implBoxesValid_any _ _ _ _ _ hI1).mono ?_; rintro e w3 ⟨rfl, hb3⟩; rw [hv]
             have hb4 : Below w.heap.size w w3 := hb2.trans (hb3.mono hb2.size)
             have hH3 := hH1.below hb3
             have hI3 := hI1.below hb3
             have h3 := hH3
             obtain ⟨y3, p0, p1, p2⟩ := h3
             clear hb3 hH1)
          | (go_at_call 38; refine (slots_any _ _ _ _ hh).mono ?_; rintro e w5 ⟨rfl, hb5⟩; rw [hN]
             have hb6 : Below w.heap.size w w5 := hb4.trans (hb5.mono hb4.size)
             have hH5 := hH3.below hb5
             have hI5 := hI3.below hb5
             clear hb5 p0 p1 p2 y3))

        clear hN hI1 hI3 hH3 hb2 hb4
        go_loopw [26] (fun i wr => ∃ k : Nat, k ≤ n' ∧ i = .int .i64 k ∧ okP t bs xs k = true ∧ Hull3 wr w.heap.size b r t ∧ IsBoxes wr A n c bs ∧ Below w.heap.size w wr) (fun i _ => n' - (intOf i).toNat)
        case atStart => exact ⟨0, by omega, rfl, rfl, hH5, hI5, hb6⟩
        case round =>
          clear hH5 hI5 hb6
          obtain ⟨k, hk, rfl, hok, hHr, hIr, hbr⟩ := hrel
          have hsr := hbr.size
          by_cases hlt : k < n'
          · have hlt' : (k : Int) < n' := by omega
            have hk0 : (0 : Int) ≤ k := by omega
            obtain ⟨g, off, hA, hg, hc⟩ := H'.out.at_ hlt
            subst hA
            have hsu := okP_succ t bs xs k
            rw [hok, Bool.true_and, okAt] at hsu
            have hno := planB_no (b := b) (r := r) (t := t) (bs := bs) k (show k < xs.length by rw [Hl'.out]; exact hlt)
            have hcut := (H'.out.cut (k := k) (by omega)).below hbr
            have hkc : (k : Int) ≤ c' := by have := H'.out.1; omega
            have hc1 := (hbr.cell (p := ⟨g, off + k, none⟩) hg).trans hc
            obtain ⟨v, hv'⟩ : ∃ v, xs.getD k 0 = v := ⟨_, rfl⟩
            rw [hv'] at hc1 hsu
            obtain ⟨ys, hys⟩ : ∃ ys, xs.take k = ys := ⟨_, rfl⟩
            rw [hys] at hsu hcut
            obtain ⟨q, hq⟩ : ∃ q, ixOf (idsB bs) v = q := ⟨_, rfl⟩
            rw [hq] at hsu
            have Hno := Lib.hid hno
            have Hcut := Lib.hid hcut
            have HIr := Lib.hid hIr
            have Hq := Lib.hid hq
            clear hno hcut hIr hok hys hq hv' hc
            by_cases hv0 : v = 0
            · subst hv0
              have hsu1 : okP t bs xs (k + 1) = true := by rw [hsu]; rfl
              clear hsu
              have Hsu := Lib.hid hsu1
              clear hsu1
              go_wp2_with (fail)
              exact ⟨⟨k + 1, by omega, by go_num, Hsu.out, hHr, HIr.out, hbr⟩, by simp [intOf]; omega⟩
            · have hvb : (v == 0) = false := beq_eq_false_iff_ne.2 hv0
              rw [hvb, Bool.false_or] at hsu
              by_cases hq0 : q < 0
              · rw [decide_eq_false (show ¬ 0 ≤ q by omega)] at hsu
                have hfin := Hno.out (by rw [hsu]; rfl)
                have Hfin := Lib.hid hfin
                clear hfin hsu
                go_wp2_with (first
                  | (go_at_call 45; refine (boxAt_any _ _ _ _ _ _ HIr.out).mono ?_; rintro e v1 ⟨rfl, hv1⟩; rw [Hq.out]; have hbv := hbr.trans (hv1.mono hsr)))
                go_ret
                exact ⟨ret_bool (by rw [Hfin.out]), hbv⟩
              · have hq1 : 0 ≤ q := by omega
                rw [decide_eq_true hq1, Bool.true_and] at hsu
                clear hq0
                cases hha : hasB ys v with
                | true =>
                  rw [hha] at hsu
                  have hfin := Hno.out (by rw [hsu]; rfl)
                  have Hfin := Lib.hid hfin
                  clear hfin hsu
                  go_wp2_with (first
                    | (go_at_call 46; refine (contains_any _ _ _ _ _ _ hcut1).mono ?_; rintro e w' ⟨rfl, rfl⟩; rw [hha])
                    | (go_at_call 45; refine (boxAt_any _ _ _ _ _ _ HIr.out).mono ?_; rintro e v1 ⟨rfl, hv1⟩; rw [Hq.out]; have hbv := hbr.trans (hv1.mono hsr); have hcut1 := Hcut.out.below hv1))
                  go_ret
                  exact ⟨ret_bool (by rw [Hfin.out]), hbv⟩
                | false =>
                  rw [hha] at hsu
                  by_cases ht0 : (k : Int) % t = 0
                  · have hsu1 : okP t bs xs (k + 1) = true := by rw [hsu, ht0]; rfl
                    have Hsu := Lib.hid hsu1
                    clear hsu hsu1
                    go_wp2_with (first
                      | (go_at_call 46; refine (contains_any _ _ _ _ _ _ hcut1).mono ?_; rintro e w' ⟨rfl, rfl⟩; rw [hha])
                      | (go_at_call 45; refine (boxAt_any _ _ _ _ _ _ HIr.out).mono ?_; rintro e v1 ⟨rfl, hv1⟩; rw [Hq.out]
                         have hbv := hbr.trans (hv1.mono hsr)
                         have hsv := hbv.size
                         have hcut1 := Hcut.out.below hv1
                         have hHv := hHr.below hv1
                         have hIv := HIr.out.below hv1
                         have h3 := hHv
                         obtain ⟨y3, p0, p1, p2⟩ := h3)
                      | (go_at_call 47; refine (tier_any _ _ _ _ _ hk0 ht1).mono ?_; rintro e v2 ⟨rfl, hv2⟩; rw [ht0]
                         have hbv2 := hbv.trans (hv2.mono hsv)
                         have hH2 := hHv.below hv2
                         have hI2 := hIv.below hv2
                         clear p0 p1 p2 y3))
                    exact ⟨⟨k + 1, by omega, by go_num, Hsu.out, hH2, hI2, hbv2⟩, by simp [intOf]; omega⟩
                  · have htp : 0 < (k : Int) % t := by have := Int.emod_nonneg (k : Int) (show t ≠ 0 by omega); omega
                    have hkp : 1 ≤ k := by
                      rcases Nat.eq_zero_or_pos k with e | e
                      · subst e; simp at ht0
                      · exact e
                    rw [decide_eq_true htp, Bool.true_and] at hsu
                    obtain ⟨k', hk'⟩ : ∃ k', k - 1 = k' := ⟨_, rfl⟩
                    obtain ⟨g2, off2, hA2, hg2, hc2⟩ := H'.out.at_ (show k' < n' by omega)
                    injection hA2 with hA2
                    injection hA2 with e1 e2 e3
                    subst e1 e2
                    have hc3 := (hbr.cell (p := ⟨g, off + k', none⟩) hg).trans hc2
                    have hw1 : IntKind.i64.wrap ((k : Int) - 1) = (k' : Int) := by rw [IntWalk.i64_in _ (by omega)]; omega
                    have hk2 : (0 : Int) ≤ k' := by omega
                    have hk3 : (k' : Int) < n' := by omega
                    rw [hk'] at hsu
                    obtain ⟨v', hv2'⟩ : ∃ v, xs.getD k' 0 = v := ⟨_, rfl⟩
                    rw [hv2'] at hsu hc3
                    have hgr := Nat.lt_of_lt_of_le hg hsr
                    obtain ⟨tv, htv⟩ : ∃ tv, (k : Int) % t = tv := ⟨_, rfl⟩
                    rw [htv] at htp
                    clear hc2 hv2' hk' e3 ht0
                    cases hvv : (v' == 0) with
                    | true =>
                      rw [hvv] at hsu
                      have hfin := Hno.out (by rw [hsu]; rfl)
                      have Hfin := Lib.hid hfin
                      clear hfin hsu
                      go_wp2_with (first
                        | (go_at_call 46; refine (contains_any _ _ _ _ _ _ hcut1).mono ?_; rintro e w' ⟨rfl, rfl⟩; rw [hha])
                        | (go_at_call 45; refine (boxAt_any _ _ _ _ _ _ HIr.out).mono ?_; rintro e v1 ⟨rfl, hv1⟩; rw [Hq.out]
                           have hbv := hbr.trans (hv1.mono hsr)
                           have hsv := hbv.size
                           have hcut1 := Hcut.out.below hv1
                           have hHv := hHr.below hv1
                           have d1 := (hv1.cell (p := ⟨g, off + k', none⟩) hgr).trans hc3
                           have hgv := Nat.lt_of_lt_of_le hgr hv1.size
                           have h3 := hHv
                           obtain ⟨y3, p0, p1, p2⟩ := h3)
                        | (go_at_call 47; refine (tier_any _ _ _ _ _ hk0 ht1).mono ?_; rintro e v2 ⟨rfl, hv2⟩; rw [htv]
                           have hbv2 := hbv.trans (hv2.mono hsv)
                           have d2 := (hv2.cell (p := ⟨g, off + k', none⟩) hgv).trans d1
                           clear p0 p1 p2 y3 d1))
                      go_ret
                      exact ⟨ret_bool (by rw [Hfin.out]), hbv2⟩
                    | false =>
                      rw [hvv] at hsu
                      have hsu1 : okP t bs xs (k + 1) = true := by rw [hsu]; rfl
                      have Hsu := Lib.hid hsu1
                      clear hsu hsu1
                      go_wp2_with (first
                        | (go_at_call 46; refine (contains_any _ _ _ _ _ _ hcut1).mono ?_; rintro e w' ⟨rfl, rfl⟩; rw [hha])
                        | (go_at_call 45; refine (boxAt_any _ _ _ _ _ _ HIr.out).mono ?_; rintro e v1 ⟨rfl, hv1⟩; rw [Hq.out]
                           have hbv := hbr.trans (hv1.mono hsr)
                           have hsv := hbv.size
                           have hcut1 := Hcut.out.below hv1
                           have hHv := hHr.below hv1
                           have hIv := HIr.out.below hv1
                           have d1 := (hv1.cell (p := ⟨g, off + k', none⟩) hgr).trans hc3
                           have hgv := Nat.lt_of_lt_of_le hgr hv1.size
                           have h3 := hHv
                           obtain ⟨y3, p0, p1, p2⟩ := h3)
                        | (go_at_call 47; refine (tier_any _ _ _ _ _ hk0 ht1).mono ?_; rintro e v2 ⟨rfl, hv2⟩; rw [htv]
                           have hbv2 := hbv.trans (hv2.mono hsv)
                           have d2 := (hv2.cell (p := ⟨g, off + k', none⟩) hgv).trans d1
                           have hH2 := hHv.below hv2
                           have hI2 := hIv.below hv2
                           clear p0 p1 p2 y3 d1))
                      exact ⟨⟨k + 1, by omega, by go_num, Hsu.out, hH2, hI2, hbv2⟩, by simp [intOf]; omega⟩
          · obtain rfl : k = n' := by omega
            have hfin := Hplan.out hok
            have Hfin := Lib.hid hfin
            clear hfin hok
            go_wp2_with (fail)
            go_ret
            exact ⟨ret_bool (by rw [Hfin.out]), hbr⟩
      · have hne : ((n' : Int) != (N : Int)) = true := by rw [bne_iff_ne]; omega
        have hne' : ¬ (n' : Int) = (N : Int) := by omega
        have hfin : planB b r t bs xs = false := by
          have : ¬ (xs.length : Int) = b * r * t := by rw [hN, Hl'.out]; omega
          simp [planB, this]
        have Hfin := Lib.hid hfin
        clear hfin
        go_enter Try.func20, Try.ntmps20
        go_wp2_with (first
          | (go_at_call 33; refine (implHullValid_yes _ _ _ _ hh).mono ?_; rintro e w1 ⟨rfl, hb1⟩
             have hH1 : Hull3 w1 w.heap.size b r t := Hull3.below (w := (w.alloc _)) ⟨by simp, by go_simp, by go_simp, by go_simp⟩ hb1
             obtain ⟨hc1, hf1⟩ := bcell hb1
             have hz1 := hb1.size
             have hb2 : Below w.heap.size w w1 := (by repeat' (first | with_reducible exact Below.refl _ _ | with_reducible assumption | with_reducible refine bel_step (by with_reducible assumption) ?_ ?_ | with_reducible refine Below.drew ?_ | with_reducible refine below_drewN ?_ _ | with_reducible refine Below.alloc ?_ ?_ _ | with_reducible refine Below.setCell ?_ ?_ _ | (simp; done) | (simp; omega) | omega | with_reducible refine below_le (by with_reducible assumption) ?_))
             have hI1 := H.out.below hb2
             clear hb1 hc1 hf1 hz1)
          | (go_at_call 44; refine (implBoxesValid_any _ _ _ _ _ hI1).mono ?_; rintro e w3 ⟨rfl, hb3⟩; rw [hv]
             have hb4 : Below w.heap.size w w3 := hb2.trans (hb3.mono hb2.size)
             have hH3 := hH1.below hb3
             have hI3 := hI1.below hb3
             have h3 := hH3
             obtain ⟨y3, p0, p1, p2⟩ := h3
             clear hb3 hH1)
          | (go_at_call 38; refine (slots_any _ _ _ _ hh).mono ?_; rintro e w5 ⟨rfl, hb5⟩; rw [hN]
             have hb6 : Below w.heap.size w w5 := hb4.trans (hb5.mono hb4.size)
             have hH5 := hH3.below hb5
             have hI5 := hI3.below hb5
             clear hb5 p0 p1 p2 y3))

        go_ret
        exact ⟨ret_bool (by rw [Hfin.out]), hb6⟩
end Go.Proofs.Ytfdnikmmfnhmbaa
