/- The two PlanIds. Conditions: that the slices read as lists. -/
import Derived.Test.YtfdnikmmfnhmbaaPlan3
namespace Go.Proofs.Ytfdnikmmfnhmbaa
open Go.RowKit
set_option linter.unusedVariables false

theorem ixOf_get' (l : List Int) (x : Int) (h : 0 ≤ ixOf l x) : l.getD (ixOf l x).toNat 0 = x := by
  induction l with
  | nil => simp [ixOf] at h
  | cons y l ih =>
    simp only [ixOf] at h ⊢
    by_cases hy : y = x
    · rw [if_pos hy]; simp [hy]
    · rw [if_neg hy] at h ⊢
      by_cases h2 : ixOf l x < 0
      · rw [if_pos h2] at h; omega
      · rw [if_neg h2]
        have := ih (by omega)
        rw [show (ixOf l x + 1).toNat = (ixOf l x).toNat + 1 by omega]
        simpa using this

def someL (xs : List Int) : List Int := xs.filter fun v => v != 0
theorem someL_zero {xs : List Int} {k : Nat} (hk : k < xs.length) (h : xs.getD k 0 = 0) : someL (xs.take (k + 1)) = someL (xs.take k) := by
  have e : xs.getD k 0 = xs[k] := by simp [List.getD, hk]
  rw [List.take_succ_eq_append_getElem hk, someL, List.filter_append, ← e, h]
  simp [someL]
theorem someL_more {xs : List Int} {k : Nat} (hk : k < xs.length) (h : xs.getD k 0 ≠ 0) : someL (xs.take (k + 1)) = someL (xs.take k) ++ [xs.getD k 0] := by
  have e : xs.getD k 0 = xs[k] := by simp [List.getD, hk]
  rw [List.take_succ_eq_append_getElem hk, someL, List.filter_append, ← e]
  have hb : (xs.getD k 0 != 0) = true := by rw [bne_iff_ne]; exact h
  rw [List.filter_cons, if_pos hb]
  rfl
def idsP (b r t : Int) (bs : List Bx) (xs : List Int) : List Int := if planB b r t bs xs then someL xs else []
theorem planB_len {b r t : Int} {bs : List Bx} {xs : List Int} (h : planB b r t bs xs = true) : xs.length ≤ 36 := by
  simp only [planB, Bool.and_eq_true, decide_eq_true_eq] at h
  obtain ⟨N, hN, _, h2⟩ := hull_slots h.1.1.1
  have := h.1.2
  omega
theorem planB_at {b r t : Int} {bs : List Bx} {xs : List Int} (h : planB b r t bs xs = true) {k : Nat} (hk : k < xs.length) : okAt t bs xs k = true := by
  simp only [planB, Bool.and_eq_true, okP, List.all_eq_true, List.mem_range] at h
  exact h.2 k hk
theorem planB_pos {b r t : Int} {bs : List Bx} {xs : List Int} (h : planB b r t bs xs = true) {k : Nat} (hk : k < xs.length) : xs.getD k 0 = 0 ∨ 0 < xs.getD k 0 := by
  have ha := planB_at h hk
  by_cases h0 : xs.getD k 0 = 0
  · exact .inl h0
  · refine .inr ?_
    have hne : (xs.getD k 0 == 0) = false := beq_eq_false_iff_ne.2 h0
    rw [okAt, hne, Bool.false_or] at ha
    simp only [Bool.and_eq_true, decide_eq_true_eq] at ha
    have hb : boxesB bs = true := by
      simp only [planB, Bool.and_eq_true] at h
      exact h.1.1.2
    have hx := ha.1.1
    have hl := ixOf_lt (idsB bs) (xs.getD k 0)
    rw [idsB_len] at hl
    have hg : (idsB bs).getD (ixOf (idsB bs) (xs.getD k 0)).toNat 0 = xs.getD k 0 := ixOf_get' _ _ hx
    rw [idsB_get bs _ (by omega)] at hg
    have hall : ∀ y ∈ bs, bxB y = true := by
      intro y hy
      simp only [boxesB, Bool.and_eq_true, okBB, List.all_eq_true, List.mem_range] at hb
      obtain ⟨i, hi, e⟩ := List.getElem_of_mem hy
      have := hb.1 i hi
      simp only [List.getD, List.getElem?_eq_getElem hi, Option.getD_some, e] at this
      exact this.1
    have hm : bs.getD (ixOf (idsB bs) (xs.getD k 0)).toNat default ∈ bs := by
      rw [List.getD, List.getElem?_eq_getElem (show (ixOf (idsB bs) (xs.getD k 0)).toNat < bs.length by omega)]
      exact List.getElem_mem _
    have := hall _ hm
    simp only [bxB, boxB, Bool.and_eq_true, inR, decide_eq_true_iff] at this
    rw [← hg]
    have h1 := this.1.1.1
    omega

set_option maxHeartbeats 1600000 in
theorem implPlanIds_any (b r t : Int) (A : Option Addr) (n c : Nat) (bs : List Bx) (A' : Option Addr) (n' c' : Nat) (xs : List Int) (w : World) (h : IsBoxes w A n c bs) (h' : Ints w A' n' c' xs) :
    Calls Try.prog 25 #[.agg #[.int .i64 b, .int .i64 r, .int .i64 t], .slice A n c, .slice A' n' c'] w (ListPost w (idsP b r t bs xs)) := by
  have H := Lib.hid h
  have H' := Lib.hid h'
  have Hl' := Lib.hid h'.length
  have hlen' := h'.len
  clear h h'
  cases hp : planB b r t bs xs with
  | false =>
    have hfin : idsP b r t bs xs = [] := by simp [idsP, hp]
    have Hfin := Lib.hid hfin
    clear hfin
    go_enter Try.func25, Try.ntmps25
    go_wp2_with (go_at_call 20; refine (implPlanValid_any _ _ _ _ _ _ _ _ _ _ _ _ (H.out.alloc _) (H'.out.alloc _)).mono ?_; rintro e w1 ⟨rfl, hb0⟩; rw [hp]; have hb1 : Below w.heap.size w w1 := (by repeat' (first | with_reducible exact Below.refl _ _ | with_reducible assumption | with_reducible refine bel_step (by with_reducible assumption) ?_ ?_ | with_reducible refine Below.drew ?_ | with_reducible refine below_drewN ?_ _ | with_reducible refine Below.alloc ?_ ?_ _ | with_reducible refine Below.setCell ?_ ?_ _ | (simp; done) | (simp; omega) | omega | with_reducible refine below_le (by with_reducible assumption) ?_)))
    go_ret
    exact ⟨none, 0, 0, rfl, .inl ⟨rfl, rfl, rfl, Hfin.out⟩, hb1⟩
  | true =>
    have hfin : idsP b r t bs xs = someL xs := by simp [idsP, hp]
    have hn36 := planB_len hp
    rw [Hl'.out] at hn36
    have Hfin := Lib.hid hfin
    clear hfin
    go_enter Try.func25, Try.ntmps25
    go_wp2_with (go_at_call 20; refine (implPlanValid_any _ _ _ _ _ _ _ _ _ _ _ _ (H.out.alloc _) (H'.out.alloc _)).mono ?_; rintro e w1 ⟨rfl, hb0⟩; rw [hp]; have hb1 : Below w.heap.size w w1 := (by repeat' (first | with_reducible exact Below.refl _ _ | with_reducible assumption | with_reducible refine bel_step (by with_reducible assumption) ?_ ?_ | with_reducible refine Below.drew ?_ | with_reducible refine below_drewN ?_ _ | with_reducible refine Below.alloc ?_ ?_ _ | with_reducible refine Below.setCell ?_ ?_ _ | (simp; done) | (simp; omega) | omega | with_reducible refine below_le (by with_reducible assumption) ?_)))
    have hs1 := hb1.size
    go_loopw [7, 17] (fun v i wr => ∃ (k j : Nat), k ≤ n' ∧ j ≤ k ∧ i = .int .i64 k ∧ RowI wr w.heap.size v j (someL (xs.take k)) ∧ Below w.heap.size w wr) (fun _ i _ => n' - (intOf i).toNat)
    case atStart => exact ⟨0, 0, by omega, by omega, rfl, ⟨rfl, .inl ⟨rfl, rfl⟩⟩, hb1⟩
    case round =>
      obtain ⟨k, j, hk, hj, rfl, hrow, hbr⟩ := hrel
      have hsr := hbr.size
      by_cases hlt : k < n'
      · have hlt' : (k : Int) < n' := by omega
        have hk0 : (0 : Int) ≤ k := by omega
        obtain ⟨g, off, hA, hg, hc⟩ := H'.out.at_ hlt
        subst hA
        have hc1 := (hbr.cell (p := ⟨g, off + k, none⟩) hg).trans hc
        have hkx : k < xs.length := by rw [Hl'.out]; exact hlt
        have hz := someL_zero hkx
        have hm := someL_more hkx
        obtain ⟨u, hu⟩ : ∃ u, xs.getD k 0 = u := ⟨_, rfl⟩
        rw [hu] at hc1 hz hm
        clear hc hu
        by_cases hu0 : u = 0
        · subst hu0
          rw [← hz rfl] at hrow
          have Hrow := Lib.hid hrow
          clear hrow hz hm
          go_wp2_with (fail)
          exact ⟨⟨k + 1, j, by omega, by omega, by go_num, Hrow.out, hbr⟩, by simp [intOf]; omega⟩
        · have hub : (u != 0) = true := by rw [bne_iff_ne]; exact hu0
          have hm1 := hm hu0
          have Hm := Lib.hid hm1
          clear hz hm hm1
          go_wp2_with (first
            | (at_builtin; refine wpList_append_ints rfl _ _ rfl w.heap.size _ j _ rfl (hrow.alloc _) (some ⟨wr.heap.size, 0, none⟩) 1 1 [u] rfl (one_ints _ _) (by omega) (le_alloc hsr _) ?_; intro v' w' hr' hg'
               rw [← Hm.out] at hr'
               have hb' : Below w.heap.size w w' := below_append (hbr.alloc hsr _) (hrow.alloc _) hg' (le_alloc hsr _)
               clear hg'))
          exact ⟨⟨k + 1, j + 1, by omega, by omega, by go_num, hr', hb'⟩, by simp [intOf]; omega⟩
      · obtain rfl : k = n' := by omega
        obtain ⟨A5, c5, rfl, ho5⟩ := hrow.own
        have hx : xs.take k = xs := List.take_of_length_le (by rw [Hl'.out]; omega)
        rw [hx] at ho5
        have Ho5 := Lib.hid ho5
        clear ho5 hrow hx
        go_wp2_with (fail)
        go_ret
        exact ⟨A5, j, c5, rfl, by rw [Hfin.out]; exact Ho5.out, hbr⟩

theorem empty_row2 {w : World} {B : Nat} (g : Nat) (hg : w.heap.size = g) (hB : B ≤ w.heap.size) : RowI (w.alloc (.cells #[] 3)) B (.slice (some ⟨g, 0, none⟩) 0 0) 0 [] := by subst hg; exact empty_row hB
set_option maxHeartbeats 1600000 in
theorem specPlanIds_any (b r t : Int) (A : Option Addr) (n c : Nat) (bs : List Bx) (A' : Option Addr) (n' c' : Nat) (xs : List Int) (w : World) (h : IsBoxes w A n c bs) (h' : Ints w A' n' c' xs) :
    Calls Try.prog 24 #[.agg #[.int .i64 b, .int .i64 r, .int .i64 t], .slice A n c, .slice A' n' c'] w (ListPost w (idsP b r t bs xs)) := by
  have H := Lib.hid h
  have H' := Lib.hid h'
  have Hl' := Lib.hid h'.length
  have hlen' := h'.len
  clear h h'
  have hre : RowI ((w.alloc (.cells #[.int .i64 b, .int .i64 r, .int .i64 t] 26)).alloc (.cells #[] 3)) w.heap.size (.slice (some ⟨w.heap.size + 1, 0, none⟩) 0 0) 0 [] := empty_row2 (w.heap.size + 1) (by simp) (by simp)
  have hbe : Below w.heap.size w ((w.alloc (.cells #[.int .i64 b, .int .i64 r, .int .i64 t] 26)).alloc (.cells #[] 3)) := ((Below.refl _ _).alloc (Nat.le_refl _) _).alloc (by simp) _
  have Hre := Lib.hid hre
  clear hre
  cases hp : planB b r t bs xs with
  | false =>
    have hfin : idsP b r t bs xs = [] := by simp [idsP, hp]
    have Hfin := Lib.hid hfin
    clear hfin
    go_enter Try.func24, Try.ntmps24
    go_wp2_with (go_at_call 17; refine (specPlanValid_any _ _ _ _ _ _ _ _ _ _ _ _ ((H.out.alloc _).alloc _) ((H'.out.alloc _).alloc _)).mono ?_; rintro e w1 ⟨rfl, hb0⟩; rw [hp]; have hb1 : Below w.heap.size w w1 := hbe.trans (hb0.mono hbe.size); have hr1 := below_row Hre.out hb0)
    obtain ⟨A5, c5, e5, ho5⟩ := hr1.own
    go_ret
    injection e5 with e1 e2 e3
    subst e1 e3
    exact ⟨_, 0, _, rfl, by rw [Hfin.out]; exact ho5, hb1⟩
  | true =>
    have hfin : idsP b r t bs xs = someL xs := by simp [idsP, hp]
    have hn36 := planB_len hp
    have hpos := fun k (hk : k < xs.length) => planB_pos hp hk
    rw [Hl'.out] at hn36
    have Hfin := Lib.hid hfin
    have Hpos := Lib.hid hpos
    clear hfin hpos
    go_enter Try.func24, Try.ntmps24
    go_wp2_with (go_at_call 17; refine (specPlanValid_any _ _ _ _ _ _ _ _ _ _ _ _ ((H.out.alloc _).alloc _) ((H'.out.alloc _).alloc _)).mono ?_; rintro e w1 ⟨rfl, hb0⟩; rw [hp]; have hb1 : Below w.heap.size w w1 := hbe.trans (hb0.mono hbe.size); have hr1 := below_row Hre.out hb0)
    have hs1 := hb1.size
    clear hb0 hbe
    go_loopw [7, 8] (fun v i wr => ∃ (k j : Nat), k ≤ n' ∧ j ≤ k ∧ i = .int .i64 k ∧ RowI wr w.heap.size v j (someL (xs.take k)) ∧ Below w.heap.size w wr) (fun _ i _ => n' - (intOf i).toNat)
    case atStart => exact ⟨0, 0, by omega, by omega, rfl, hr1, hb1⟩
    case round =>
      obtain ⟨k, j, hk, hj, rfl, hrow, hbr⟩ := hrel
      have hsr := hbr.size
      by_cases hlt : k < n'
      · have hlt' : (k : Int) < n' := by omega
        have hk0 : (0 : Int) ≤ k := by omega
        obtain ⟨g, off, hA, hg, hc⟩ := H'.out.at_ hlt
        subst hA
        have hc1 := (hbr.cell (p := ⟨g, off + k, none⟩) hg).trans hc
        have hkx : k < xs.length := by rw [Hl'.out]; exact hlt
        have hz := someL_zero hkx
        have hm := someL_more hkx
        have hpk := Hpos.out k hkx
        have hgr := Nat.lt_of_lt_of_le hg hsr
        obtain ⟨u, hu⟩ : ∃ u, xs.getD k 0 = u := ⟨_, rfl⟩
        rw [hu] at hc1 hz hm hpk
        clear hc hu
        by_cases hu0 : u = 0
        · subst hu0
          rw [← hz rfl] at hrow
          have Hrow := Lib.hid hrow
          clear hrow hz hm hpk
          go_wp2_with (fail)
          exact ⟨⟨k + 1, j, by omega, by omega, by go_num, Hrow.out, hbr⟩, by simp [intOf]; omega⟩
        · have hup : 0 < u := by rcases hpk with h | h; exact absurd h hu0; exact h
          have hm1 := hm hu0
          have Hm := Lib.hid hm1
          clear hz hm hm1 hpk
          go_wp2_with (first
            | (at_builtin; refine wpList_append_ints rfl _ _ rfl w.heap.size _ j _ rfl (hrow.alloc _) (some ⟨wr.heap.size, 0, none⟩) 1 1 [u] rfl (one_ints _ _) (by omega) (le_alloc hsr _) ?_; intro v' w' hr' hg'
               rw [← Hm.out] at hr'
               have hb' : Below w.heap.size w w' := below_append (hbr.alloc hsr _) (hrow.alloc _) hg' (le_alloc hsr _)
               clear hg'))
          exact ⟨⟨k + 1, j + 1, by omega, by omega, by go_num, hr', hb'⟩, by simp [intOf]; omega⟩
      · obtain rfl : k = n' := by omega
        obtain ⟨A5, c5, rfl, ho5⟩ := hrow.own
        have hx : xs.take k = xs := List.take_of_length_le (by rw [Hl'.out]; omega)
        rw [hx] at ho5
        have Ho5 := Lib.hid ho5
        clear ho5 hrow hx
        go_wp2_with (fail)
        go_ret
        exact ⟨A5, j, c5, rfl, by rw [Hfin.out]; exact Ho5.out, hbr⟩
end Go.Proofs.Ytfdnikmmfnhmbaa
