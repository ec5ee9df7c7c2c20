/- The two PlanNext. Conditions: that the slices read as lists. (Printed by wip/genplan5.py.) -/
import Derived.Test.YtfdnikmmfnhmbaaPlan4
namespace Go.Proofs.Ytfdnikmmfnhmbaa
open Go.RowKit
set_option linter.unusedVariables false

def freeAt (t : Int) (xs : List Int) (k : Nat) : Bool := xs.getD k 0 == 0 && ((k : Int) % t == 0 || !(xs.getD (k - 1) 0 == 0))
def nextL (t : Int) (xs : List Int) (k : Nat) : List Int := ((List.range k).filter (freeAt t xs)).map fun (i : Nat) => (i : Int)
theorem nextL_yes {t : Int} {xs : List Int} {k : Nat} (h : freeAt t xs k = true) : nextL t xs (k + 1) = nextL t xs k ++ [(k : Int)] := by
  simp [nextL, List.range_succ, List.filter_append, h]
theorem nextL_no {t : Int} {xs : List Int} {k : Nat} (h : freeAt t xs k = false) : nextL t xs (k + 1) = nextL t xs k := by
  simp [nextL, List.range_succ, List.filter_append, h]
def nextP (b r t : Int) (bs : List Bx) (xs : List Int) : List Int := if planB b r t bs xs then nextL t xs xs.length else []
theorem planB_hull {b r t : Int} {bs : List Bx} {xs : List Int} (h : planB b r t bs xs = true) : hullB b r t = true ∧ b * r * t = xs.length := by
  simp only [planB, Bool.and_eq_true, decide_eq_true_eq] at h
  exact ⟨h.1.1.1, h.1.2.symm⟩

theorem rowLess {w : World} {B B' n : Nat} {v : Value} {xs : List Int} (h : RowI w B v n xs) (hB : B' ≤ B) : RowI w B' v n xs := by
  obtain ⟨A, c, rfl, ho⟩ := h.own
  exact RowI.of_own (ho.less hB)
theorem keepHull {w w' : World} {n g : Nat} {v : Value} {xs : List Int} {b r t : Int} (h : Hull3 w g b r t) (hr : RowI w (g + 1) v n xs) (hg : w.grownBy w' v.ownBlock) : Hull3 w' g b r t := by
  have hne : v.ownBlock ≠ some g := by
    intro e
    rcases hr.block with e2 | ⟨g2, e2, h3, h4⟩
    · rw [e2] at e; cases e
    · rw [e2] at e; injection e with e; omega
  exact
  ⟨Nat.lt_of_lt_of_le h.1 hg.size, (World.cell?_of_block (a := ⟨g, 0, none⟩) (hg.block g h.1 (Ne.symm hne))).trans h.2.1, (World.cell?_of_block (a := ⟨g, 1, none⟩) (hg.block g h.1 (Ne.symm hne))).trans h.2.2.1, (World.cell?_of_block (a := ⟨g, 2, none⟩) (hg.block g h.1 (Ne.symm hne))).trans h.2.2.2⟩

set_option maxHeartbeats 3200000 in
theorem implPlanNext_any (b r t : Int) (A : Option Addr) (n c : Nat) (bs : List Bx) (A' : Option Addr) (n' c' : Nat) (xs : List Int) (w : World) (h : IsBoxes w A n c bs) (h' : Ints w A' n' c' xs) :
    Calls Try.prog 28 #[.agg #[.int .i64 b, .int .i64 r, .int .i64 t], .slice A n c, .slice A' n' c'] w (ListPost w (nextP b r t bs xs)) := by
  have H := Lib.hid h
  have H' := Lib.hid h'
  have Hl' := Lib.hid h'.length
  have hlen' := h'.len
  clear h h' 
  have hbe : Below w.heap.size w (w.alloc (.cells #[.int .i64 b, .int .i64 r, .int .i64 t] 26)) := (Below.refl _ _).alloc (Nat.le_refl _) _
  have h3e : Hull3 (w.alloc (.cells #[.int .i64 b, .int .i64 r, .int .i64 t] 26)) w.heap.size b r t := ⟨by simp, by go_simp, by go_simp, by go_simp⟩
  have hre : True := trivial
  have Hre := Lib.hid hre
  have H3 := Lib.hid h3e
  have Hbe := Lib.hid hbe
  clear hre h3e hbe
  cases hp : planB b r t bs xs with
  | false =>
    have hfin : nextP b r t bs xs = [] := by simp [nextP, hp]
    have Hfin := Lib.hid hfin
    clear hfin
    go_enter Try.func28, Try.ntmps28
    go_wp2_with (go_at_call 20; refine (implPlanValid_any _ _ _ _ _ _ _ _ _ _ _ _  (H.out.alloc _) (H'.out.alloc _)).mono ?_; rintro e w1 ⟨rfl, hb0⟩; rw [hp]; have hb1 : Below w.heap.size w w1 := Hbe.out.trans (hb0.mono Hbe.out.size))
    go_ret
    exact ⟨none, 0, 0, rfl, .inl ⟨rfl, rfl, rfl, Hfin.out⟩, hb1⟩
  | true =>
    have hfin : nextP b r t bs xs = nextL t xs n' := by rw [nextP, if_pos hp, Hl'.out]
    have hn36 := planB_len hp
    have hpos := fun k (hk : k < xs.length) => planB_pos hp hk
    obtain ⟨hhu, hN⟩ := planB_hull hp
    obtain ⟨_, _, ht1, ht3⟩ := hullB_iff.1 hhu
    rw [Hl'.out] at hn36 hN
    have Hfin := Lib.hid hfin
    have Hpos := Lib.hid hpos
    have HN := Lib.hid hN
    have Hhu := Lib.hid hhu
    clear hfin hpos hN hhu
    go_enter Try.func28, Try.ntmps28
    go_wp2_with (go_at_call 20; refine (implPlanValid_any _ _ _ _ _ _ _ _ _ _ _ _  (H.out.alloc _) (H'.out.alloc _)).mono ?_; rintro e w1 ⟨rfl, hb0⟩; rw [hp]; have hb1 : Below w.heap.size w w1 := Hbe.out.trans (hb0.mono Hbe.out.size); have hr1 : RowI w1 (w.heap.size + 1) (.slice none 0 0) 0 [] := ⟨rfl, .inl ⟨rfl, rfl⟩⟩; have h31 := H3.out.below hb0)
    have hs1 := hb1.size
    clear hb0
    go_loopw [7, 17] (fun v i wr => ∃ (k j : Nat), k ≤ n' ∧ j ≤ k ∧ i = .int .i64 k ∧ RowI wr (w.heap.size + 1) v j (nextL t xs k) ∧ Hull3 wr w.heap.size b r t ∧ Below w.heap.size w wr) (fun _ i _ => n' - (intOf i).toNat)
    case atStart => exact ⟨0, 0, by omega, by omega, rfl, hr1, h31, hb1⟩
    case round =>
      clear hr1 h31 hb1 hs1
      obtain ⟨k, j, hk, hj, rfl, hrow, hHr, hbr⟩ := hrel
      have hsr := hbr.size
      by_cases hlt : k < n'
      · have hlt' : (k : Int) < n' := by omega
        have hk0 : (0 : Int) ≤ k := by omega
        obtain ⟨g, off, hA, hg, hc⟩ := H'.out.at_ hlt
        subst hA
        have hc1 := (hbr.cell (p := ⟨g, off + k, none⟩) hg).trans hc
        have hjm : j + 1 ≤ 1000000000 := by omega
        have hkx : k < xs.length := by rw [Hl'.out]; exact hlt
        have hgr := Nat.lt_of_lt_of_le hg hsr
        have hyes := @nextL_yes t xs k
        have hnon := @nextL_no t xs k
        obtain ⟨u, hu⟩ : ∃ u, xs.getD k 0 = u := ⟨_, rfl⟩
        have h3 := hHr
        obtain ⟨y3, p0, p1, p2⟩ := h3
        have Hrow := Lib.hid hrow
        have HHr := Lib.hid hHr
        clear hrow hHr
        by_cases hu0 : u = 0
        · subst hu0
          have hub : (xs.getD k 0 == 0) = true := by rw [hu]; rfl
          rw [hu] at hc1
          by_cases ht0 : (k : Int) % t = 0
          · have hf : freeAt t xs k = true := by rw [freeAt, hub, ht0]; rfl
            have hm := hyes hf
            have Hm := Lib.hid hm
            clear hm hf hyes hnon hub hc hu
            go_wp2_with (first
              | (at_builtin; refine wpList_append_ints rfl _ _ rfl (w.heap.size + 1) _ j _ rfl (hrow1.alloc _) (some ⟨v1.heap.size, 0, none⟩) 1 1 [(k : Int)] rfl (one_ints _ _) hjm (le_alloc HH1.out.1 _) ?_; intro v' w' hr' hg'
                 rw [← Hm.out] at hr'
                 have hb' : Below w.heap.size w w' := below_append (hbv.alloc hsv _) (rowLess (hrow1.alloc _) (Nat.le_succ _)) hg' (le_alloc hsv _)
                 have hH' : Hull3 w' w.heap.size b r t := keepHull (HH1.out.below ((Below.refl _ _).alloc (Nat.le_refl _) _)) (hrow1.alloc _) hg'
                 clear hg')
              | (go_at_call 47; refine (tier_any _ _ _ _ _ hk0 ht1).mono ?_; rintro e v1 ⟨rfl, hv1⟩; rw [ht0]
                 have hbv := hbr.trans (hv1.mono hsr)
                 have hsv := hbv.size
                 have hrow1 := below_row Hrow.out hv1
                 have HH1 := Lib.hid (HHr.out.below hv1)
                 have hcv := (hv1.cell (p := ⟨g, off + k, none⟩) hgr).trans hc1
                 clear p0 p1 p2 y3))
            exact ⟨⟨k + 1, j + 1, by omega, by omega, by go_num, hr', hH', hb'⟩, by simp [intOf]; omega⟩
          · have htp : 0 < (k : Int) % t := by have := Int.emod_nonneg (k : Int) (show t ≠ 0 by omega); omega
            have hkp : 1 ≤ k := by
              rcases Nat.eq_zero_or_pos k with e | e
              · subst e; simp at ht0
              · exact e
            obtain ⟨k', hk'⟩ : ∃ k', k - 1 = k' := ⟨_, rfl⟩
            obtain ⟨g2, off2, hA2, hg2, hc2⟩ := H'.out.at_ (show k' < n' by omega)
            injection hA2 with hA2
            injection hA2 with e1 e2 e3
            subst e1 e2
            have hc3 := (hbr.cell (p := ⟨g, off + k', none⟩) hg).trans hc2
            have hw1 : IntKind.i64.wrap ((k : Int) - 1) = (k' : Int) := by rw [IntWalk.i64_in _ (by omega)]; omega
            have hk2 : (0 : Int) ≤ k' := by omega
            have hk3 : (k' : Int) < n' := by omega
            have hpk := Hpos.out k' (by rw [Hl'.out]; omega)
            obtain ⟨v', hv2'⟩ : ∃ v, xs.getD k' 0 = v := ⟨_, rfl⟩
            rw [hv2'] at hc3 hpk
            obtain ⟨tv, htv⟩ : ∃ tv, (k : Int) % t = tv := ⟨_, rfl⟩
            have htb : ((k : Int) % t == 0) = false := beq_eq_false_iff_ne.2 ht0
            have htn : ¬ tv = 0 := by omega
            have htn' : (tv == 0) = false := beq_eq_false_iff_ne.2 htn
            by_cases hv0 : v' = 0
            · subst hv0
              have hf : freeAt t xs k = false := by rw [freeAt, hub, htb, hk', hv2']; rfl
              have hm := hnon hf
              have Hm := Lib.hid hm
              clear hm hf hyes hnon hub hc hu hpk hc2 hv2' hk' e3 ht0 htp htb
              go_wp2_with (first
                | (go_at_call 47; refine (tier_any _ _ _ _ _ hk0 ht1).mono ?_; rintro e v1 ⟨rfl, hv1⟩; rw [htv]
                   have hbv := hbr.trans (hv1.mono hsr)
                   have hsv := hbv.size
                   have hrow1 := below_row Hrow.out hv1
                   have HH1 := Lib.hid (HHr.out.below hv1)
                   have hcv := (hv1.cell (p := ⟨g, off + k, none⟩) hgr).trans hc1
                   have hdv := (hv1.cell (p := ⟨g, off + k', none⟩) hgr).trans hc3
                   clear p0 p1 p2 y3))
              exact ⟨⟨k + 1, j, by omega, by omega, by go_num, Hm.out ▸ hrow1, HH1.out, hbv⟩, by simp [intOf]; omega⟩
            · have hvb : (v' == 0) = false := beq_eq_false_iff_ne.2 hv0
              have hvn : (v' != 0) = true := by rw [bne_iff_ne]; exact hv0
              have hvp : 0 < v' := by rcases hpk with h | h; exact absurd h hv0; exact h
              have hf : freeAt t xs k = true := by rw [freeAt, hub, htb, hk', hv2', hvb]; rfl
              have hm := hyes hf
              have Hm := Lib.hid hm
              clear hm hf hyes hnon hub hc hu hpk hc2 hv2' hk' e3 ht0 htp htb
              go_wp2_with (first
                | (at_builtin; refine wpList_append_ints rfl _ _ rfl (w.heap.size + 1) _ j _ rfl (hrow1.alloc _) (some ⟨v1.heap.size, 0, none⟩) 1 1 [(k : Int)] rfl (one_ints _ _) hjm (le_alloc HH1.out.1 _) ?_; intro v' w' hr' hg'
                   rw [← Hm.out] at hr'
                   have hb' : Below w.heap.size w w' := below_append (hbv.alloc hsv _) (rowLess (hrow1.alloc _) (Nat.le_succ _)) hg' (le_alloc hsv _)
                   have hH' : Hull3 w' w.heap.size b r t := keepHull (HH1.out.below ((Below.refl _ _).alloc (Nat.le_refl _) _)) (hrow1.alloc _) hg'
                   clear hg')
                | (go_at_call 47; refine (tier_any _ _ _ _ _ hk0 ht1).mono ?_; rintro e v1 ⟨rfl, hv1⟩; rw [htv]
                   have hbv := hbr.trans (hv1.mono hsr)
                   have hsv := hbv.size
                   have hrow1 := below_row Hrow.out hv1
                   have HH1 := Lib.hid (HHr.out.below hv1)
                   have hcv := (hv1.cell (p := ⟨g, off + k, none⟩) hgr).trans hc1
                   have hdv := (hv1.cell (p := ⟨g, off + k', none⟩) hgr).trans hc3
                   clear p0 p1 p2 y3))
              exact ⟨⟨k + 1, j + 1, by omega, by omega, by go_num, hr', hH', hb'⟩, by simp [intOf]; omega⟩
        · have hub : (xs.getD k 0 == 0) = false := by rw [hu]; exact beq_eq_false_iff_ne.2 hu0
          have hun : (u == 0) = false := beq_eq_false_iff_ne.2 hu0
          rw [hu] at hc1
          have hf : freeAt t xs k = false := by rw [freeAt, hub]; rfl
          have hm := hnon hf
          have Hm := Lib.hid hm
          clear hm hf hyes hnon hub hc hu
          go_wp2_with (fail)
          exact ⟨⟨k + 1, j, by omega, by omega, by go_num, Hm.out ▸ Hrow.out, HHr.out, hbr⟩, by simp [intOf]; omega⟩
      · obtain rfl : k = n' := by omega
        obtain ⟨A5, c5, rfl, ho5⟩ := hrow.own
        have Ho5 := Lib.hid ho5
        clear ho5 hrow
        go_wp2_with (fail)
        go_ret
        exact ⟨A5, j, c5, rfl, by rw [Hfin.out]; exact Ho5.out.less (Nat.le_succ _), hbr⟩

set_option maxHeartbeats 3200000 in
theorem specPlanNext_any (b r t : Int) (A : Option Addr) (n c : Nat) (bs : List Bx) (A' : Option Addr) (n' c' : Nat) (xs : List Int) (w : World) (h : IsBoxes w A n c bs) (h' : Ints w A' n' c' xs) :
    Calls Try.prog 27 #[.agg #[.int .i64 b, .int .i64 r, .int .i64 t], .slice A n c, .slice A' n' c'] w (ListPost w (nextP b r t bs xs)) := by
  have H := Lib.hid h
  have H' := Lib.hid h'
  have Hl' := Lib.hid h'.length
  have hlen' := h'.len
  clear h h' 
  have hre : RowI ((w.alloc (.cells #[.int .i64 b, .int .i64 r, .int .i64 t] 26)).alloc (.cells #[] 3)) (w.heap.size + 1) (.slice (some ⟨w.heap.size + 1, 0, none⟩) 0 0) 0 [] := empty_row2 (w.heap.size + 1) (by simp) (by simp)
  have hbe : Below w.heap.size w ((w.alloc (.cells #[.int .i64 b, .int .i64 r, .int .i64 t] 26)).alloc (.cells #[] 3)) := ((Below.refl _ _).alloc (Nat.le_refl _) _).alloc (by simp) _
  have h3e : Hull3 ((w.alloc (.cells #[.int .i64 b, .int .i64 r, .int .i64 t] 26)).alloc (.cells #[] 3)) w.heap.size b r t := Hull3.below (w := w.alloc _) ⟨by simp, by go_simp, by go_simp, by go_simp⟩ ((Below.refl _ _).alloc (Nat.le_refl _) _)
  have Hre := Lib.hid hre
  have H3 := Lib.hid h3e
  have Hbe := Lib.hid hbe
  clear hre h3e hbe
  cases hp : planB b r t bs xs with
  | false =>
    have hfin : nextP b r t bs xs = [] := by simp [nextP, hp]
    have Hfin := Lib.hid hfin
    clear hfin
    go_enter Try.func27, Try.ntmps27
    go_wp2_with (go_at_call 17; refine (specPlanValid_any _ _ _ _ _ _ _ _ _ _ _ _  ((H.out.alloc _).alloc _) ((H'.out.alloc _).alloc _)).mono ?_; rintro e w1 ⟨rfl, hb0⟩; rw [hp]; have hb1 : Below w.heap.size w w1 := Hbe.out.trans (hb0.mono Hbe.out.size); have hr1 := below_row Hre.out hb0)
    obtain ⟨A5, c5, e5, ho5⟩ := hr1.own
    go_ret
    injection e5 with e1 e2 e3
    subst e1 e3
    exact ⟨_, 0, _, rfl, by rw [Hfin.out]; exact ho5.less (Nat.le_succ _), hb1⟩
  | true =>
    have hfin : nextP b r t bs xs = nextL t xs n' := by rw [nextP, if_pos hp, Hl'.out]
    have hn36 := planB_len hp
    have hpos := fun k (hk : k < xs.length) => planB_pos hp hk
    obtain ⟨hhu, hN⟩ := planB_hull hp
    obtain ⟨_, _, ht1, ht3⟩ := hullB_iff.1 hhu
    rw [Hl'.out] at hn36 hN
    have Hfin := Lib.hid hfin
    have Hpos := Lib.hid hpos
    have HN := Lib.hid hN
    have Hhu := Lib.hid hhu
    clear hfin hpos hN hhu
    go_enter Try.func27, Try.ntmps27
    go_wp2_with (go_at_call 17; refine (specPlanValid_any _ _ _ _ _ _ _ _ _ _ _ _  ((H.out.alloc _).alloc _) ((H'.out.alloc _).alloc _)).mono ?_; rintro e w1 ⟨rfl, hb0⟩; rw [hp]; have hb1 : Below w.heap.size w w1 := Hbe.out.trans (hb0.mono Hbe.out.size); have hr1 : RowI w1 (w.heap.size + 1) (.slice (some ⟨w.heap.size + 1, 0, none⟩) 0 0) 0 [] := below_row Hre.out hb0; have h31 := H3.out.below hb0)
    have hs1 := hb1.size
    clear hb0
    go_loopw [7, 8] (fun v i wr => ∃ (k j : Nat), k ≤ n' ∧ j ≤ k ∧ i = .int .i64 k ∧ RowI wr (w.heap.size + 1) v j (nextL t xs k) ∧ Hull3 wr w.heap.size b r t ∧ Below w.heap.size w wr) (fun _ i _ => n' - (intOf i).toNat)
    case atStart => exact ⟨0, 0, by omega, by omega, rfl, hr1, h31, hb1⟩
    case round =>
      clear hr1 h31 hb1 hs1
      obtain ⟨k, j, hk, hj, rfl, hrow, hHr, hbr⟩ := hrel
      have hsr := hbr.size
      by_cases hlt : k < n'
      · have hlt' : (k : Int) < n' := by omega
        have hk0 : (0 : Int) ≤ k := by omega
        obtain ⟨g, off, hA, hg, hc⟩ := H'.out.at_ hlt
        subst hA
        have hc1 := (hbr.cell (p := ⟨g, off + k, none⟩) hg).trans hc
        have hjm : j + 1 ≤ 1000000000 := by omega
        have hkx : k < xs.length := by rw [Hl'.out]; exact hlt
        have hgr := Nat.lt_of_lt_of_le hg hsr
        have hyes := @nextL_yes t xs k
        have hnon := @nextL_no t xs k
        obtain ⟨u, hu⟩ : ∃ u, xs.getD k 0 = u := ⟨_, rfl⟩
        have h3 := hHr
        obtain ⟨y3, p0, p1, p2⟩ := h3
        have Hrow := Lib.hid hrow
        have HHr := Lib.hid hHr
        clear hrow hHr
        have hbel := belowV_at Hhu.out HN.out hlt
        by_cases hu0 : u = 0
        · subst hu0
          have hub : (xs.getD k 0 == 0) = true := by rw [hu]; rfl
          rw [hu] at hc1
          by_cases ht0 : (k : Int) % t = 0
          · have hf : freeAt t xs k = true := by rw [freeAt, hub, ht0]; rfl
            have hm := hyes hf
            have Hm := Lib.hid hm
            clear hm hf hyes hnon hub hc hu
            rw [if_pos ht0] at hbel
            go_wp2_with (first
              | (at_builtin; refine wpList_append_ints rfl _ _ rfl (w.heap.size + 1) _ j _ rfl (hrow1.alloc _) (some ⟨v1.heap.size, 0, none⟩) 1 1 [(k : Int)] rfl (one_ints _ _) hjm (le_alloc HH1.out.1 _) ?_; intro v' w' hr' hg'
                 rw [← Hm.out] at hr'
                 have hb' : Below w.heap.size w w' := below_append (hbv.alloc hsv _) (rowLess (hrow1.alloc _) (Nat.le_succ _)) hg' (le_alloc hsv _)
                 have hH' : Hull3 w' w.heap.size b r t := keepHull (HH1.out.below ((Below.refl _ _).alloc (Nat.le_refl _) _)) (hrow1.alloc _) hg'
                 clear hg')
              | (go_at_call 40; refine (specSlotBelow_any _ _ _ _ _).mono ?_; rintro e v1 ⟨rfl, hv1⟩; rw [hbel]
                 have hbv := hbr.trans (hv1.mono hsr)
                 have hsv := hbv.size
                 have hrow1 := below_row Hrow.out hv1
                 have HH1 := Lib.hid (HHr.out.below hv1)
                 have hcv := (hv1.cell (p := ⟨g, off + k, none⟩) hgr).trans hc1
                 clear p0 p1 p2 y3))
            exact ⟨⟨k + 1, j + 1, by omega, by omega, by go_num, hr', hH', hb'⟩, by simp [intOf]; omega⟩
          · have htp : 0 < (k : Int) % t := by have := Int.emod_nonneg (k : Int) (show t ≠ 0 by omega); omega
            have hkp : 1 ≤ k := by
              rcases Nat.eq_zero_or_pos k with e | e
              · subst e; simp at ht0
              · exact e
            rw [if_neg ht0] at hbel
            obtain ⟨k', hk'⟩ : ∃ k', k - 1 = k' := ⟨_, rfl⟩
            obtain ⟨g2, off2, hA2, hg2, hc2⟩ := H'.out.at_ (show k' < n' by omega)
            injection hA2 with hA2
            injection hA2 with e1 e2 e3
            subst e1 e2
            have hc3 := (hbr.cell (p := ⟨g, off + k', none⟩) hg).trans hc2
            have hw1 : IntKind.i64.wrap ((k : Int) - 1) = (k' : Int) := by rw [IntWalk.i64_in _ (by omega)]; omega
            have hk2 : (0 : Int) ≤ k' := by omega
            have hk3 : (k' : Int) < n' := by omega
            have hpk := Hpos.out k' (by rw [Hl'.out]; omega)
            rw [show (k : Int) - 1 = (k' : Int) by omega] at hbel
            obtain ⟨v', hv2'⟩ : ∃ v, xs.getD k' 0 = v := ⟨_, rfl⟩
            rw [hv2'] at hc3 hpk
            obtain ⟨tv, htv⟩ : ∃ tv, (k : Int) % t = tv := ⟨_, rfl⟩
            have htb : ((k : Int) % t == 0) = false := beq_eq_false_iff_ne.2 ht0
            have htn : ¬ tv = 0 := by omega
            have htn' : (tv == 0) = false := beq_eq_false_iff_ne.2 htn
            by_cases hv0 : v' = 0
            · subst hv0
              have hf : freeAt t xs k = false := by rw [freeAt, hub, htb, hk', hv2']; rfl
              have hm := hnon hf
              have Hm := Lib.hid hm
              clear hm hf hyes hnon hub hc hu hpk hc2 hv2' hk' e3 ht0 htp htb
              go_wp2_with (first
                | (go_at_call 40; refine (specSlotBelow_any _ _ _ _ _).mono ?_; rintro e v1 ⟨rfl, hv1⟩; rw [hbel]
                   have hbv := hbr.trans (hv1.mono hsr)
                   have hsv := hbv.size
                   have hrow1 := below_row Hrow.out hv1
                   have HH1 := Lib.hid (HHr.out.below hv1)
                   have hcv := (hv1.cell (p := ⟨g, off + k, none⟩) hgr).trans hc1
                   have hdv := (hv1.cell (p := ⟨g, off + k', none⟩) hgr).trans hc3
                   clear p0 p1 p2 y3))
              exact ⟨⟨k + 1, j, by omega, by omega, by go_num, Hm.out ▸ hrow1, HH1.out, hbv⟩, by simp [intOf]; omega⟩
            · have hvb : (v' == 0) = false := beq_eq_false_iff_ne.2 hv0
              have hvn : (v' != 0) = true := by rw [bne_iff_ne]; exact hv0
              have hvp : 0 < v' := by rcases hpk with h | h; exact absurd h hv0; exact h
              have hf : freeAt t xs k = true := by rw [freeAt, hub, htb, hk', hv2', hvb]; rfl
              have hm := hyes hf
              have Hm := Lib.hid hm
              clear hm hf hyes hnon hub hc hu hpk hc2 hv2' hk' e3 ht0 htp htb
              go_wp2_with (first
                | (at_builtin; refine wpList_append_ints rfl _ _ rfl (w.heap.size + 1) _ j _ rfl (hrow1.alloc _) (some ⟨v1.heap.size, 0, none⟩) 1 1 [(k : Int)] rfl (one_ints _ _) hjm (le_alloc HH1.out.1 _) ?_; intro v' w' hr' hg'
                   rw [← Hm.out] at hr'
                   have hb' : Below w.heap.size w w' := below_append (hbv.alloc hsv _) (rowLess (hrow1.alloc _) (Nat.le_succ _)) hg' (le_alloc hsv _)
                   have hH' : Hull3 w' w.heap.size b r t := keepHull (HH1.out.below ((Below.refl _ _).alloc (Nat.le_refl _) _)) (hrow1.alloc _) hg'
                   clear hg')
                | (go_at_call 40; refine (specSlotBelow_any _ _ _ _ _).mono ?_; rintro e v1 ⟨rfl, hv1⟩; rw [hbel]
                   have hbv := hbr.trans (hv1.mono hsr)
                   have hsv := hbv.size
                   have hrow1 := below_row Hrow.out hv1
                   have HH1 := Lib.hid (HHr.out.below hv1)
                   have hcv := (hv1.cell (p := ⟨g, off + k, none⟩) hgr).trans hc1
                   have hdv := (hv1.cell (p := ⟨g, off + k', none⟩) hgr).trans hc3
                   clear p0 p1 p2 y3))
              exact ⟨⟨k + 1, j + 1, by omega, by omega, by go_num, hr', hH', hb'⟩, by simp [intOf]; omega⟩
        · have hub : (xs.getD k 0 == 0) = false := by rw [hu]; exact beq_eq_false_iff_ne.2 hu0
          have hun : (u == 0) = false := beq_eq_false_iff_ne.2 hu0
          rw [hu] at hc1
          have hf : freeAt t xs k = false := by rw [freeAt, hub]; rfl
          have hm := hnon hf
          have Hm := Lib.hid hm
          clear hm hf hyes hnon hub hc hu
          obtain ⟨bel, hbl⟩ : ∃ bel, (if (k : Int) % t = 0 then -1 else (k : Int) - 1) = bel := ⟨_, rfl⟩
          rw [hbl] at hbel
          clear hbl
          go_wp2_with (first
            | (go_at_call 40; refine (specSlotBelow_any _ _ _ _ _).mono ?_; rintro e v1 ⟨rfl, hv1⟩; rw [hbel]
               have hbv := hbr.trans (hv1.mono hsr)
               have hsv := hbv.size
               have hrow1 := below_row Hrow.out hv1
               have HH1 := Lib.hid (HHr.out.below hv1)
               have hcv := (hv1.cell (p := ⟨g, off + k, none⟩) hgr).trans hc1
               clear p0 p1 p2 y3))
          exact ⟨⟨k + 1, j, by omega, by omega, by go_num, Hm.out ▸ hrow1, HH1.out, hbv⟩, by simp [intOf]; omega⟩
      · obtain rfl : k = n' := by omega
        obtain ⟨A5, c5, rfl, ho5⟩ := hrow.own
        have Ho5 := Lib.hid ho5
        clear ho5 hrow
        go_wp2_with (fail)
        go_ret
        exact ⟨A5, j, c5, rfl, by rw [Hfin.out]; exact Ho5.out.less (Nat.le_succ _), hbr⟩
end Go.Proofs.Ytfdnikmmfnhmbaa
