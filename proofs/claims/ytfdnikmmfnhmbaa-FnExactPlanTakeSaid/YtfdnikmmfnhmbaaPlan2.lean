/- spec.PlanValid at slices that read as lists. Conditions: that the slices read as lists. -/
import Derived.Test.YtfdnikmmfnhmbaaPlan
namespace Go.Proofs.Ytfdnikmmfnhmbaa
open Go.RowKit
set_option linter.unusedVariables false

theorem IsBoxes.drewN {w : World} {A : Option Addr} {n c : Nat} {bs : List Bx} (h : IsBoxes w A n c bs) (k : Nat) : IsBoxes (w.drewN k) A n c bs := h
theorem belowV_at {b r t : Int} (h : hullB b r t = true) {N : Nat} (hN : b * r * t = N) {k : Nat} (hk : k < N) : belowV b r t k = if (k : Int) % t = 0 then -1 else (k : Int) - 1 := by
  have hp : placeOk b r t k = true := by
    simp only [placeOk, h, Bool.true_and]
    exact inR_yes (by rw [hN]; omega)
  rw [belowV, hp, Bool.true_and]
  by_cases h0 : (k : Int) % t = 0
  · rw [if_pos h0, h0]; rfl
  · rw [if_neg h0, if_pos (by simpa using h0)]

set_option maxHeartbeats 3200000 in
theorem specPlanValid_any (b r t : Int) (A : Option Addr) (n c : Nat) (bs : List Bx) (A' : Option Addr) (n' c' : Nat) (xs : List Int) (w : World) (h : IsBoxes w A n c bs) (h' : Ints w A' n' c' xs) :
    Calls Try.prog 17 #[.agg #[.int .i64 b, .int .i64 r, .int .i64 t], .slice A n c, .slice A' n' c'] w fun e w' => e = .returned (.bool (planB b r t bs xs)) ∧ Below w.heap.size w w' := by
  have H := Lib.hid h
  have H' := Lib.hid h'
  have Hl' := Lib.hid h'.length
  have hlen' := h'.len
  clear h h'
  cases hh : hullB b r t with
  | false =>
    have hfin : planB b r t bs xs = false := by simp [planB, hh]
    have Hfin := Lib.hid hfin
    clear hfin
    go_enter Try.func17, Try.ntmps17
    go_wp2_with (go_at_call 36; refine (specHullValid_no _ _ _ _ hh).mono ?_; rintro e w1 ⟨rfl, hb1⟩)
    go_ret
    exact ⟨ret_bool (by rw [Hfin.out]), (by repeat' (first | with_reducible exact Below.refl _ _ | with_reducible assumption | with_reducible refine bel_step (by with_reducible assumption) ?_ ?_ | with_reducible refine Below.drew ?_ | with_reducible refine below_drewN ?_ _ | with_reducible refine Below.alloc ?_ ?_ _ | with_reducible refine Below.setCell ?_ ?_ _ | (simp; done) | (simp; omega) | omega | with_reducible refine below_le (by with_reducible assumption) ?_))⟩
  | true =>
    cases hv : boxesB bs with
    | false =>
      have hfin : planB b r t bs xs = false := by simp [planB, hv]
      have Hfin := Lib.hid hfin
      clear hfin
      go_enter Try.func17, Try.ntmps17
      go_wp2_with (first
        | (go_at_call 36; refine (specHullValid_yes _ _ _ _ hh).mono ?_; rintro e w1 ⟨rfl, hb1⟩; have hb2 : Below w.heap.size w w1 := (by repeat' (first | with_reducible exact Below.refl _ _ | with_reducible assumption | with_reducible refine bel_step (by with_reducible assumption) ?_ ?_ | with_reducible refine Below.drew ?_ | with_reducible refine below_drewN ?_ _ | with_reducible refine Below.alloc ?_ ?_ _ | with_reducible refine Below.setCell ?_ ?_ _ | (simp; done) | (simp; omega) | omega | with_reducible refine below_le (by with_reducible assumption) ?_)); have hI1 := H.out.below hb2)
        | (go_at_call 39; refine (specBoxesValid_any _ _ _ _ _ hI1).mono ?_; rintro e w3 ⟨rfl, hb3⟩; rw [hv]; have hb4 : Below w.heap.size w w3 := hb2.trans (hb3.mono hb2.size)))
      go_ret
      exact ⟨ret_bool (by rw [Hfin.out]), hb4⟩
    | true =>
      obtain ⟨N, hN, hN1, hN2⟩ := hull_slots hh
      obtain ⟨_, _, ht1, ht3⟩ := hullB_iff.1 hh
      have hsm : slotManyV b r t = N := by simp [slotManyV, hh, hN]
      have Hsm := Lib.hid hsm
      clear hsm
      by_cases hnN : n' = N
      · subst hnN
        have hplan : okP t bs xs n' = true → planB b r t bs xs = true := by
          intro h
          simp [planB, hh, hv, h, Hl'.out, hN]
        have Hplan := Lib.hid hplan
        clear hplan hN1
        go_enter Try.func17, Try.ntmps17
        go_wp2_with (first
          | (go_at_call 36; refine (specHullValid_yes _ _ _ _ hh).mono ?_; rintro e w1 ⟨rfl, hb1⟩
             have hH1 : Hull3 w1 w.heap.size b r t := Hull3.below (w := (w.alloc _)) ⟨by simp, by go_simp, by go_simp, by go_simp⟩ hb1
             have hb2 : Below w.heap.size w w1 := (by repeat' (first | with_reducible exact Below.refl _ _ | with_reducible assumption | with_reducible refine bel_step (by with_reducible assumption) ?_ ?_ | with_reducible refine Below.drew ?_ | with_reducible refine below_drewN ?_ _ | with_reducible refine Below.alloc ?_ ?_ _ | with_reducible refine Below.setCell ?_ ?_ _ | (simp; done) | (simp; omega) | omega | with_reducible refine below_le (by with_reducible assumption) ?_))
             have hI1 := H.out.below hb2
             clear hb1)
          | (go_at_call 39; refine (specBoxesValid_any _ _ _ _ _ hI1).mono ?_; rintro e w3 ⟨rfl, hb3⟩; rw [hv]
             have hb4 : Below w.heap.size w w3 := hb2.trans (hb3.mono hb2.size)
             have hH3 := hH1.below hb3
             have hI3 := hI1.below hb3
             have h3 := hH3
             obtain ⟨y3, p0, p1, p2⟩ := h3
             clear hb3 hH1)
          | (go_at_call 37; refine (specSlotMany_any _ _ _ _).mono ?_; rintro e w5 ⟨rfl, hb5⟩; rw [Hsm.out]
             have hb6 : Below w.heap.size w w5 := hb4.trans (hb5.mono hb4.size)
             have hH5 := hH3.below hb5
             have hI5 := hI3.below hb5
             clear hb5 p0 p1 p2 y3))
        have HN := Lib.hid hN
        clear hN hI1 hI3 hH3 hb2 hb4
        go_loopw [7] (fun i wr => ∃ k : Nat, k ≤ n' ∧ i = .int .i64 k ∧ okP t bs xs k = true ∧ Hull3 wr w.heap.size b r t ∧ IsBoxes wr A n c bs ∧ Below w.heap.size w wr) (fun i _ => n' - (intOf i).toNat)
        case atStart => exact ⟨0, by omega, rfl, rfl, hH5, hI5, hb6⟩
        case round =>
          clear hH5 hI5 hb6
          obtain ⟨k, hk, rfl, hok, hHr, hIr, hbr⟩ := hrel
          have hsr := hbr.size
          by_cases hlt : k < n'
          · have hlt' : (k : Int) < n' := by omega
            have hk0 : (0 : Int) ≤ k := by omega
            obtain ⟨g, off, hA, hg, hc⟩ := H'.out.at_ hlt
            subst hA
            have hsu := okP_succ t bs xs k
            rw [hok, Bool.true_and, okAt] at hsu
            have hbel := belowV_at hh HN.out hlt
            have hno := planB_no (b := b) (r := r) (t := t) (bs := bs) k (show k < xs.length by rw [Hl'.out]; exact hlt)
            have hcut := (H'.out.cut (k := k) (by omega)).below hbr
            have hkc : (k : Int) ≤ c' := by have := H'.out.1; omega
            have hc1 := (hbr.cell (p := ⟨g, off + k, none⟩) hg).trans hc
            have hgr := Nat.lt_of_lt_of_le hg hsr
            obtain ⟨v, hv'⟩ : ∃ v, xs.getD k 0 = v := ⟨_, rfl⟩
            rw [hv'] at hc1 hsu
            obtain ⟨ys, hys⟩ : ∃ ys, xs.take k = ys := ⟨_, rfl⟩
            rw [hys] at hsu hcut
            obtain ⟨q, hq⟩ : ∃ q, ixOf (idsB bs) v = q := ⟨_, rfl⟩
            rw [hq] at hsu
            have h3 := hHr
            obtain ⟨y3, p0, p1, p2⟩ := h3
            have Hno := Lib.hid hno
            have Hcut := Lib.hid hcut
            have HIr := Lib.hid hIr
            have Hq := Lib.hid hq
            clear hno hcut hIr hok hys hq hv' hc
            by_cases hv0 : v = 0
            · subst hv0
              have hsu1 : okP t bs xs (k + 1) = true := by rw [hsu]; rfl
              clear hsu hbel
              have Hsu := Lib.hid hsu1
              clear hsu1 p0 p1 p2 y3
              go_wp2_with (fail)
              exact ⟨⟨k + 1, by omega, by go_num, Hsu.out, hHr, HIr.out, hbr⟩, by simp [intOf]; omega⟩
            · have hvb : (v == 0) = false := beq_eq_false_iff_ne.2 hv0
              rw [hvb, Bool.false_or] at hsu
              by_cases hq0 : q < 0
              · rw [decide_eq_false (show ¬ 0 ≤ q by omega)] at hsu
                have hfin := Hno.out (by rw [hsu]; rfl)
                have Hfin := Lib.hid hfin
                clear hfin hsu
                obtain ⟨bel, hbl⟩ : ∃ bel, (if (k : Int) % t = 0 then -1 else (k : Int) - 1) = bel := ⟨_, rfl⟩
                rw [hbl] at hbel
                clear hbl
                go_wp2_with (first
                  | (go_at_call 40; refine (specSlotBelow_any _ _ _ _ _).mono ?_; rintro e v1 ⟨rfl, hv1⟩; rw [hbel]
                     have hbv := hbr.trans (hv1.mono hsr)
                     have hIv := HIr.out.below hv1
                     have hHv := hHr.below hv1
                     have hcutv := Hcut.out.below hv1
                     have hcv := (hv1.cell (p := ⟨g, off + k, none⟩) hgr).trans hc1
                     clear p0 p1 p2 y3))
                have hf : ∀ d, Calls Try.prog 41 #[.slice A n c, .int .i64 v] (v1.drewN d) fun e w' => e = .returned (.int .i64 q) ∧ w' = v1.drewN d := by
                  intro d
                  have := l2Find_any A n c bs v (v1.drewN d) (hIv.drewN d)
                  rw [Hq.out] at this
                  exact quiet_l this
                have hl1 : ∀ d, Calls Try.prog 42 #[.slice (some ⟨g, off, none⟩) k c', .int .i64 v] (v1.drewN d) fun e w' => e = .returned (.bool (hasB ys v)) ∧ w' = v1.drewN d := by
                  intro d
                  have := l1Has_any _ _ _ _ v (v1.drewN d) (hcutv.drewN d)
                  exact quiet_l this
                have Hf := Lib.hid hf
                have Hl1 := Lib.hid hl1
                clear hf hl1 hcutv
                have HIv := Lib.hid hIv
                have HHv := Lib.hid hHv
                clear hIv hHv
                go_quiet ((first
                  | (go_at_call 41; exact Calls.quiet_of_same (Hf.out _))
                  | (go_at_call 42; exact Calls.quiet_of_same (Hl1.out _))))
                go_wp2
                go_ret
                exact ⟨ret_bool (by rw [Hfin.out]), (by repeat' (first | with_reducible exact Below.refl _ _ | with_reducible assumption | with_reducible refine bel_step (by with_reducible assumption) ?_ ?_ | with_reducible refine Below.drew ?_ | with_reducible refine below_drewN ?_ _ | with_reducible refine Below.alloc ?_ ?_ _ | with_reducible refine Below.setCell ?_ ?_ _ | (simp; done) | (simp; omega) | omega | with_reducible refine below_le (by with_reducible assumption) ?_))⟩
              · have hq1 : 0 ≤ q := by omega
                rw [decide_eq_true hq1, Bool.true_and] at hsu
                obtain ⟨m, rfl⟩ := Int.eq_ofNat_of_zero_le hq1
                have hm0 : ((m : Int) < 0) = False := by simp
                clear hq1 hq0
                cases hha : hasB ys v with
                | true =>
                  rw [hha] at hsu
                  have hfin := Hno.out (by rw [hsu]; rfl)
                  have Hfin := Lib.hid hfin
                  clear hfin hsu
                  obtain ⟨bel, hbl⟩ : ∃ bel, (if (k : Int) % t = 0 then -1 else (k : Int) - 1) = bel := ⟨_, rfl⟩
                  rw [hbl] at hbel
                  clear hbl
                  go_wp2_with (first
                    | (go_at_call 40; refine (specSlotBelow_any _ _ _ _ _).mono ?_; rintro e v1 ⟨rfl, hv1⟩; rw [hbel]
                       have hbv := hbr.trans (hv1.mono hsr)
                       have hIv := HIr.out.below hv1
                       have hHv := hHr.below hv1
                       have hcutv := Hcut.out.below hv1
                       have hcv := (hv1.cell (p := ⟨g, off + k, none⟩) hgr).trans hc1
                       clear p0 p1 p2 y3))
                  have hf : ∀ d, Calls Try.prog 41 #[.slice A n c, .int .i64 v] (v1.drewN d) fun e w' => e = .returned (.int .i64 (m : Int)) ∧ w' = v1.drewN d := by
                    intro d
                    have := l2Find_any A n c bs v (v1.drewN d) (hIv.drewN d)
                    rw [Hq.out] at this
                    exact quiet_l this
                  have hl1 : ∀ d, Calls Try.prog 42 #[.slice (some ⟨g, off, none⟩) k c', .int .i64 v] (v1.drewN d) fun e w' => e = .returned (.bool true) ∧ w' = v1.drewN d := by
                    intro d
                    have := l1Has_any _ _ _ _ v (v1.drewN d) (hcutv.drewN d)
                    rw [hha] at this
                    exact quiet_l this
                  have Hf := Lib.hid hf
                  have Hl1 := Lib.hid hl1
                  clear hf hl1 hcutv
                  have HIv := Lib.hid hIv
                  have HHv := Lib.hid hHv
                  clear hIv hHv
                  go_quiet ((first
                    | (go_at_call 41; exact Calls.quiet_of_same (Hf.out _))
                    | (go_at_call 42; exact Calls.quiet_of_same (Hl1.out _))))
                  go_wp2
                  go_ret
                  exact ⟨ret_bool (by rw [Hfin.out]), (by repeat' (first | with_reducible exact Below.refl _ _ | with_reducible assumption | with_reducible refine bel_step (by with_reducible assumption) ?_ ?_ | with_reducible refine Below.drew ?_ | with_reducible refine below_drewN ?_ _ | with_reducible refine Below.alloc ?_ ?_ _ | with_reducible refine Below.setCell ?_ ?_ _ | (simp; done) | (simp; omega) | omega | with_reducible refine below_le (by with_reducible assumption) ?_))⟩
                | false =>
                  rw [hha] at hsu
                  by_cases ht0 : (k : Int) % t = 0
                  · have hsu1 : okP t bs xs (k + 1) = true := by rw [hsu, ht0]; rfl
                    have Hsu := Lib.hid hsu1
                    rw [if_pos ht0] at hbel
                    clear hsu hsu1 ht0
                    go_wp2_with (first
                      | (go_at_call 40; refine (specSlotBelow_any _ _ _ _ _).mono ?_; rintro e v1 ⟨rfl, hv1⟩; rw [hbel]
                         have hbv := hbr.trans (hv1.mono hsr)
                         have hIv := HIr.out.below hv1
                         have hHv := hHr.below hv1
                         have hcutv := Hcut.out.below hv1
                         have hcv := (hv1.cell (p := ⟨g, off + k, none⟩) hgr).trans hc1
                         clear p0 p1 p2 y3))
                    have hf : ∀ d, Calls Try.prog 41 #[.slice A n c, .int .i64 v] (v1.drewN d) fun e w' => e = .returned (.int .i64 (m : Int)) ∧ w' = v1.drewN d := by
                      intro d
                      have := l2Find_any A n c bs v (v1.drewN d) (hIv.drewN d)
                      rw [Hq.out] at this
                      exact quiet_l this
                    have hl1 : ∀ d, Calls Try.prog 42 #[.slice (some ⟨g, off, none⟩) k c', .int .i64 v] (v1.drewN d) fun e w' => e = .returned (.bool false) ∧ w' = v1.drewN d := by
                      intro d
                      have := l1Has_any _ _ _ _ v (v1.drewN d) (hcutv.drewN d)
                      rw [hha] at this
                      exact quiet_l this
                    have Hf := Lib.hid hf
                    have Hl1 := Lib.hid hl1
                    clear hf hl1 hcutv
                    have HIv := Lib.hid hIv
                    have HHv := Lib.hid hHv
                    clear hIv hHv
                    go_quiet ((first
                      | (go_at_call 41; exact Calls.quiet_of_same (Hf.out _))
                      | (go_at_call 42; exact Calls.quiet_of_same (Hl1.out _))))
                    go_wp2
                    exact ⟨⟨k + 1, by omega, by go_num, Hsu.out, HHv.out, HIv.out, (by repeat' (first | with_reducible exact Below.refl _ _ | with_reducible assumption | with_reducible refine bel_step (by with_reducible assumption) ?_ ?_ | with_reducible refine Below.drew ?_ | with_reducible refine below_drewN ?_ _ | with_reducible refine Below.alloc ?_ ?_ _ | with_reducible refine Below.setCell ?_ ?_ _ | (simp; done) | (simp; omega) | omega | with_reducible refine below_le (by with_reducible assumption) ?_))⟩, by simp [intOf]; omega⟩
                  · have htp : 0 < (k : Int) % t := by have := Int.emod_nonneg (k : Int) (show t ≠ 0 by omega); omega
                    have hkp : 1 ≤ k := by
                      rcases Nat.eq_zero_or_pos k with e | e
                      · subst e; simp at ht0
                      · exact e
                    rw [decide_eq_true htp, Bool.true_and] at hsu
                    rw [if_neg ht0] at hbel
                    obtain ⟨k', hk'⟩ : ∃ k', k - 1 = k' := ⟨_, rfl⟩
                    rw [show (k : Int) - 1 = (k' : Int) by omega] at hbel
                    obtain ⟨g2, off2, hA2, hg2, hc2⟩ := H'.out.at_ (show k' < n' by omega)
                    injection hA2 with hA2
                    injection hA2 with e1 e2 e3
                    subst e1 e2
                    have hc3 := (hbr.cell (p := ⟨g, off + k', none⟩) hg).trans hc2
                    have hk2 : (0 : Int) ≤ k' := by omega
                    have hk3 : (k' : Int) < n' := by omega
                    rw [hk'] at hsu
                    obtain ⟨v', hv2'⟩ : ∃ v, xs.getD k' 0 = v := ⟨_, rfl⟩
                    rw [hv2'] at hsu hc3
                    clear hc2 hv2' hk' e3 ht0 htp
                    cases hvv : (v' == 0) with
                    | true =>
                      rw [hvv] at hsu
                      have hfin := Hno.out (by rw [hsu]; rfl)
                      have Hfin := Lib.hid hfin
                      clear hfin hsu
                      go_wp2_with (first
                        | (go_at_call 40; refine (specSlotBelow_any _ _ _ _ _).mono ?_; rintro e v1 ⟨rfl, hv1⟩; rw [hbel]
                           have hbv := hbr.trans (hv1.mono hsr)
                           have hIv := HIr.out.below hv1
                           have hHv := hHr.below hv1
                           have hcutv := Hcut.out.below hv1
                           have hcv := (hv1.cell (p := ⟨g, off + k, none⟩) hgr).trans hc1
                           have hdv := (hv1.cell (p := ⟨g, off + k', none⟩) hgr).trans hc3
                           clear p0 p1 p2 y3))
                      have hf : ∀ d, Calls Try.prog 41 #[.slice A n c, .int .i64 v] (v1.drewN d) fun e w' => e = .returned (.int .i64 (m : Int)) ∧ w' = v1.drewN d := by
                        intro d
                        have := l2Find_any A n c bs v (v1.drewN d) (hIv.drewN d)
                        rw [Hq.out] at this
                        exact quiet_l this
                      have hl1 : ∀ d, Calls Try.prog 42 #[.slice (some ⟨g, off, none⟩) k c', .int .i64 v] (v1.drewN d) fun e w' => e = .returned (.bool false) ∧ w' = v1.drewN d := by
                        intro d
                        have := l1Has_any _ _ _ _ v (v1.drewN d) (hcutv.drewN d)
                        rw [hha] at this
                        exact quiet_l this
                      have Hf := Lib.hid hf
                      have Hl1 := Lib.hid hl1
                      clear hf hl1 hcutv
                      have HIv := Lib.hid hIv
                      have HHv := Lib.hid hHv
                      clear hIv hHv
                      go_quiet ((first
                        | (go_at_call 41; exact Calls.quiet_of_same (Hf.out _))
                        | (go_at_call 42; exact Calls.quiet_of_same (Hl1.out _))))
                      go_wp2
                      go_ret
                      exact ⟨ret_bool (by rw [Hfin.out]), (by repeat' (first | with_reducible exact Below.refl _ _ | with_reducible assumption | with_reducible refine bel_step (by with_reducible assumption) ?_ ?_ | with_reducible refine Below.drew ?_ | with_reducible refine below_drewN ?_ _ | with_reducible refine Below.alloc ?_ ?_ _ | with_reducible refine Below.setCell ?_ ?_ _ | (simp; done) | (simp; omega) | omega | with_reducible refine below_le (by with_reducible assumption) ?_))⟩
                    | false =>
                      rw [hvv] at hsu
                      have hsu1 : okP t bs xs (k + 1) = true := by rw [hsu]; rfl
                      have Hsu := Lib.hid hsu1
                      clear hsu hsu1
                      go_wp2_with (first
                        | (go_at_call 40; refine (specSlotBelow_any _ _ _ _ _).mono ?_; rintro e v1 ⟨rfl, hv1⟩; rw [hbel]
                           have hbv := hbr.trans (hv1.mono hsr)
                           have hIv := HIr.out.below hv1
                           have hHv := hHr.below hv1
                           have hcutv := Hcut.out.below hv1
                           have hcv := (hv1.cell (p := ⟨g, off + k, none⟩) hgr).trans hc1
                           have hdv := (hv1.cell (p := ⟨g, off + k', none⟩) hgr).trans hc3
                           clear p0 p1 p2 y3))
                      have hf : ∀ d, Calls Try.prog 41 #[.slice A n c, .int .i64 v] (v1.drewN d) fun e w' => e = .returned (.int .i64 (m : Int)) ∧ w' = v1.drewN d := by
                        intro d
                        have := l2Find_any A n c bs v (v1.drewN d) (hIv.drewN d)
                        rw [Hq.out] at this
                        exact quiet_l this
                      have hl1 : ∀ d, Calls Try.prog 42 #[.slice (some ⟨g, off, none⟩) k c', .int .i64 v] (v1.drewN d) fun e w' => e = .returned (.bool false) ∧ w' = v1.drewN d := by
                        intro d
                        have := l1Has_any _ _ _ _ v (v1.drewN d) (hcutv.drewN d)
                        rw [hha] at this
                        exact quiet_l this
                      have Hf := Lib.hid hf
                      have Hl1 := Lib.hid hl1
                      clear hf hl1 hcutv
                      have HIv := Lib.hid hIv
                      have HHv := Lib.hid hHv
                      clear hIv hHv
                      go_quiet ((first
                        | (go_at_call 41; exact Calls.quiet_of_same (Hf.out _))
                        | (go_at_call 42; exact Calls.quiet_of_same (Hl1.out _))))
                      go_wp2
                      exact ⟨⟨k + 1, by omega, by go_num, Hsu.out, HHv.out, HIv.out, (by repeat' (first | with_reducible exact Below.refl _ _ | with_reducible assumption | with_reducible refine bel_step (by with_reducible assumption) ?_ ?_ | with_reducible refine Below.drew ?_ | with_reducible refine below_drewN ?_ _ | with_reducible refine Below.alloc ?_ ?_ _ | with_reducible refine Below.setCell ?_ ?_ _ | (simp; done) | (simp; omega) | omega | with_reducible refine below_le (by with_reducible assumption) ?_))⟩, by simp [intOf]; omega⟩
          · obtain rfl : k = n' := by omega
            have hfin := Hplan.out hok
            have Hfin := Lib.hid hfin
            clear hfin hok
            go_wp2_with (fail)
            go_ret
            exact ⟨ret_bool (by rw [Hfin.out]), hbr⟩
      · have hne : ((n' : Int) != (N : Int)) = true := by rw [bne_iff_ne]; omega
        have hne' : ¬ (n' : Int) = (N : Int) := by omega
        have hfin : planB b r t bs xs = false := by
          have : ¬ (xs.length : Int) = b * r * t := by rw [hN, Hl'.out]; omega
          simp [planB, this]
        have Hfin := Lib.hid hfin
        clear hfin
        go_enter Try.func17, Try.ntmps17
        go_wp2_with (first
          | (go_at_call 36; refine (specHullValid_yes _ _ _ _ hh).mono ?_; rintro e w1 ⟨rfl, hb1⟩
             have hH1 : Hull3 w1 w.heap.size b r t := Hull3.below (w := (w.alloc _)) ⟨by simp, by go_simp, by go_simp, by go_simp⟩ hb1
             have hb2 : Below w.heap.size w w1 := (by repeat' (first | with_reducible exact Below.refl _ _ | with_reducible assumption | with_reducible refine bel_step (by with_reducible assumption) ?_ ?_ | with_reducible refine Below.drew ?_ | with_reducible refine below_drewN ?_ _ | with_reducible refine Below.alloc ?_ ?_ _ | with_reducible refine Below.setCell ?_ ?_ _ | (simp; done) | (simp; omega) | omega | with_reducible refine below_le (by with_reducible assumption) ?_))
             have hI1 := H.out.below hb2
             clear hb1)
          | (go_at_call 39; refine (specBoxesValid_any _ _ _ _ _ hI1).mono ?_; rintro e w3 ⟨rfl, hb3⟩; rw [hv]
             have hb4 : Below w.heap.size w w3 := hb2.trans (hb3.mono hb2.size)
             have hH3 := hH1.below hb3
             have hI3 := hI1.below hb3
             have h3 := hH3
             obtain ⟨y3, p0, p1, p2⟩ := h3
             clear hb3 hH1)
          | (go_at_call 37; refine (specSlotMany_any _ _ _ _).mono ?_; rintro e w5 ⟨rfl, hb5⟩; rw [Hsm.out]
             have hb6 : Below w.heap.size w w5 := hb4.trans (hb5.mono hb4.size)
             have hH5 := hH3.below hb5
             have hI5 := hI3.below hb5
             clear hb5 p0 p1 p2 y3))
        go_ret
        exact ⟨ret_bool (by rw [Hfin.out]), hb6⟩
end Go.Proofs.Ytfdnikmmfnhmbaa
