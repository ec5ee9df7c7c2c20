/- The drawers of the laws on lists of boxes; the walk of the law FnBoxesValid. Conditions: that the code reads as bytes. -/
import Derived.Test.YtbhmbmfhbeocoaaDrBoxes
import Derived.Test.YtbhmbmfhbeocoaaBoxesM
import Derived.Test.YtbhmbmfhbeocoaaNum
import Derived.Deep.RegionHeld3
namespace Go.Proofs.Ytbhmbmfhbeocoaa
open Go.RowKit
set_option linter.unusedVariables false

def DrawBs (w : World) (e : Ending) (w' : World) : Prop :=
  ∃ A n c bs, e = .returned (.slice A n c) ∧ IsBoxes w' A n c bs ∧ n ≤ 12 ∧ Below w.heap.size w w'

set_option maxHeartbeats 800000 in
theorem drawBoxesValid_any (A : Option Addr) (n c : Nat) (zs : List Int) (w : World) (h : IsRow .u8 w A n c zs) :
    Calls Try.prog 27 #[.slice A n c] w (DrawBs w) := by
  have H := Lib.hid h
  clear h
  go_enter Try.func27, Try.ntmps27
  go_wp2_with (fail)
  refine (l20Open_any _ _ _ _ _ H.out).mono ?_
  rintro e w1 ⟨g, rfl, hr1, hb1⟩
  have hge := hr1.ge
  have hs1 := hb1.size
  go_wp2_with (fail)
  refine (l20Boxes_any _ _ _ _ _ _ hr1 (by omega) (by omega) (by omega) (by omega)).mono ?_
  rintro e w3 ⟨A1, n1, c1, xs, rfl, ho, hn, hr3, hg3⟩
  have hb3 := below_grown_step hg3 hb1 hge hs1
  clear hg3 hb1 hr1
  go_wp2_with (fail)
  go_ret
  exact ⟨A1, n1, c1, xs, rfl, ho.boxes, hn, hb3⟩

theorem IsBoxes.nil (w : World) : IsBoxes w none 0 0 [] := ⟨Nat.le_refl _, Nat.zero_le _, rfl, fun _ => rfl, fun h => absurd h (by omega)⟩
theorem one_made (w : World) (y : Bx) (g : Nat) (hg : w.heap.size = g) : MadeB (w.alloc (.cells #[.int .i64 y.id, .int .i64 y.wt, .int .i64 y.cl, .int .i64 y.po, .bool y.co] 25)) g 1 [y] := by
  subst hg
  have hh := heap_alloc_new w (.cells #[.int .i64 y.id, .int .i64 y.wt, .int .i64 y.cl, .int .i64 y.po, .bool y.co] 25)
  refine ⟨by simp, rfl, by unfold maxLen; omega, fun j hj => ?_, fun o => by simp only [World.frozen?, hh]; rfl⟩
  obtain rfl : j = 0 := by omega
  simp only [BoxAt, World.cell?, hh]
  exact ⟨rfl, rfl, rfl, rfl, rfl⟩
theorem MadeB.keep {w w' : World} {g n : Nat} {bs : List Bx} (h : MadeB w g n bs) (hk : w'.heap[g]? = w.heap[g]?) (hs : w.heap.size ≤ w'.heap.size) : MadeB w' g n bs := by
  obtain ⟨h1, h2, h3, h4, h5⟩ := h
  refine ⟨Nat.lt_of_lt_of_le h1 hs, h2, h3, fun j hj => ?_, fun o => (World.frozen?_of_block (a := ⟨g, o, none⟩) hk).trans (h5 o)⟩
  obtain ⟨c0, c1, c2, c3, c4⟩ := h4 j hj
  exact ⟨(World.cell?_of_block (a := ⟨g, _, none⟩) hk).trans c0, (World.cell?_of_block (a := ⟨g, _, none⟩) hk).trans c1, (World.cell?_of_block (a := ⟨g, _, none⟩) hk).trans c2, (World.cell?_of_block (a := ⟨g, _, none⟩) hk).trans c3, (World.cell?_of_block (a := ⟨g, _, none⟩) hk).trans c4⟩
/-- without the first box, where there is room behind it -/
theorem IsBoxes.tail {w : World} {b off n c : Nat} {bs : List Bx} (h : IsBoxes w (some ⟨b, off, none⟩) (n + 1) (c + 1) bs) : IsBoxes w (some ⟨b, off + 5, none⟩) n c (bs.drop 1) := by
  obtain ⟨h1, h2, h3, h4, h5⟩ := h
  refine ⟨by omega, by omega, by rw [List.length_drop]; omega, (fun e => by cases e), fun hn => ?_⟩
  obtain ⟨b', off', e, hlt, hc⟩ := h5 (by omega)
  injection e with e
  injection e with e1 e2 e3
  subst e1 e2
  refine ⟨b, off + 5, rfl, hlt, fun j hj => ?_⟩
  have := hc (j + 1) (by omega)
  rw [show off + (j + 1) * 5 = off + 5 + j * 5 by omega] at this
  simpa [List.getD, Nat.add_comm] using this
/-- without its only box -/
theorem IsBoxes.tail0 {w : World} {A : Option Addr} {c : Nat} {bs : List Bx} (h : IsBoxes w A 1 (c + 1) bs) (hA : A ≠ none) : IsBoxes w A 0 c (bs.drop 1) := by
  obtain ⟨h1, h2, h3, h4, h5⟩ := h
  exact ⟨Nat.zero_le _, by omega, by rw [List.length_drop]; omega, fun e => absurd e hA, fun hn => absurd hn (by omega)⟩

/-- an append at a guarded operation of a region that draws -/
theorem step_append_boxes' {ops : Array Oper} {o : Oper} {a : Act} {w : World} {K : Act → World → Prop} {Q : Exit → Act → World → Prop} {E : Prop} (hw : Region.wanted o (yielded ops a.tmps) = true) (s x : Operand)
    (ho : o.op = .call { callee := .builtin .append, args := #[s, x], argTypes := #[31, 31] })
    (B : Nat) (v : Value) (n : Nat) (xs : List Bx) (hs : a.eval s = v) (hown : RowB w B v n xs)
    (ad : Addr) (m c : Nat) (ys : List Bx) (hx : a.eval x = .slice (some ad) m c) (hr : IsBoxes w (some ad) m c ys) (hnm : n + m ≤ 100000000) (hB : B ≤ w.heap.size)
    (h : ∀ v' w', RowB w' B v' (n + m) (xs ++ ys) → w.grownBy w' v.ownBlock → K (a.put o.dst v') w') : if Region.wanted o (yielded ops a.tmps) = true then Oper.wp Try.prog o a w K Q else E := by
  rw [if_pos hw]
  obtain ⟨i0, hi, hz0, hz1, hz2⟩ := info_parts box_info
  refine wp_append_own w s x 31 ho B 25 i0 _ 5 40 Try.underlying31 hi hz0 hz1 hz2 rfl (by omega) v n (cellsB xs) hs hown ad m c (cellsB ys) hx (by rw [cellsB_len, hr.length]) ?_ (cellsB_one ys) (by unfold maxLen; omega) (by omega) hB ?_
  · intro j u hu
    have hj : j < m * 5 := by
      have := (List.getElem?_eq_some_iff.1 hu).1
      rwa [cellsB_len, hr.length] at this
    obtain ⟨b, off, e, _, hc⟩ := hr.at_ (show j / 5 < m by omega)
    injection e with e
    subst e
    have h1 := cellsB_at ys (j / 5) (j % 5) (by rw [hr.length]; omega) (by omega)
    rw [show j / 5 * 5 + j % 5 = j by omega, hu] at h1
    have h2 := boxAt_iff.1 hc (j % 5) u h1.symm
    rw [add_off, ← h2, show off + j / 5 * 5 + j % 5 = off + j by omega]
  · intro v' w' h1 h2 _
    exact h v' w' (by rw [RowB, cellsB_append]; exact h1) h2
theorem empty_rowB' {w : World} {B : Nat} (g : Nat) (hg : w.heap.size = g) (hB : B ≤ w.heap.size) : RowB (w.alloc (.cells #[] 25)) B (.slice (some ⟨g, 0, none⟩) 0 0) 0 [] := by subst hg; exact empty_rowB hB

set_option maxHeartbeats 3200000 in
theorem fnBoxesValid_walk (A : Option Addr) (n c : Nat) (zs : List Int) (w : World) (h : IsRow .u8 w A n c zs) :
    Calls Try.prog 8 #[.slice A n c] w fun e w' => e = .returned (.bool true) ∧ Below w.heap.size w w' := by
  by_cases hn : 1048576 < n
  · have hn' : (1048576 : Int) < n := by omega
    clear h
    go_enter Try.func8, Try.ntmps8
    go_wp2_with (fail)
    go_ret
    exact ⟨rfl, (by repeat' (first | with_reducible exact Below.refl _ _ | with_reducible assumption | with_reducible refine bel_step (by with_reducible assumption) ?_ ?_ | with_reducible refine Below.drew ?_ | with_reducible refine below_drewN ?_ _ | with_reducible refine Below.alloc ?_ ?_ _ | with_reducible refine Below.setCell ?_ ?_ _ | (simp; done) | (simp; omega) | omega | with_reducible refine below_le (by with_reducible assumption) ?_))⟩
  · have hn' : (n : Int) ≤ 1048576 := by omega
    have H := Lib.hid h
    clear h hn
    go_enter Try.func8, Try.ntmps8
    go_wp2_with (fail)
    refine (drawBoxesValid_any _ _ _ _ _ H.out).mono ?_
    rintro e w1 ⟨A1, n1, c1, bs, rfl, hI, hn1, hb1⟩
    have hs1 := hb1.size
    have hl := hI.length
    cases hs : boxesB bs with
    | false =>
      go_wp2_with (fail)
      refine (implBoxesValid_any _ _ _ _ _ hI).mono ?_
      rintro e w2 ⟨rfl, hb2⟩
      have hb3 := hb1.trans (hb2.mono hs1)
      have hs3 := hb3.size
      have hI2 := hI.below hb2
      rw [hs]
      go_wp2_with (fail)
      refine (specBoxesValid_any _ _ _ _ _ hI2).mono ?_
      rintro e w4 ⟨rfl, hb4⟩
      have hb5 := hb3.trans (hb4.mono hs3)
      have hs5 := hb5.size
      rw [hs]
      go_wp2_with (first
        | (go_at_call 17; refine (implBoxesValid_any _ _ _ _ _ (IsBoxes.nil _)).mono ?_; rintro e w6 ⟨rfl, hb6⟩; rw [boxesB_nil]; have hb7 := hb5.trans (hb6.mono hs5))
        | (go_at_call 26; refine (alive_any _).mono ?_; rintro e w' ⟨rfl, rfl⟩))
      go_ret
      exact ⟨rfl, hb7⟩
    | true =>
      by_cases h0 : n1 = 0
      · subst h0
        go_wp2_with (fail)
        refine (implBoxesValid_any _ _ _ _ _ hI).mono ?_
        rintro e w2 ⟨rfl, hb2⟩
        have hb3 := hb1.trans (hb2.mono hs1)
        have hs3 := hb3.size
        have hI2 := hI.below hb2
        rw [hs]
        go_wp2_with (fail)
        refine (specBoxesValid_any _ _ _ _ _ hI2).mono ?_
        rintro e w4 ⟨rfl, hb4⟩
        have hb5 := hb3.trans (hb4.mono hs3)
        have hs5 := hb5.size
        rw [hs]
        go_wp2_with (first
          | (go_at_call 17; refine (implBoxesValid_any _ _ _ _ _ (IsBoxes.nil _)).mono ?_; rintro e w6 ⟨rfl, hb6⟩; rw [boxesB_nil]; have hb7 := hb5.trans (hb6.mono hs5))
          | (go_at_call 26; refine (alive_any _).mono ?_; rintro e w' ⟨rfl, rfl⟩))
        go_ret
        exact ⟨rfl, hb7⟩
      · obtain ⟨m, rfl⟩ : ∃ m, n1 = m + 1 := ⟨n1 - 1, by omega⟩
        obtain ⟨d, rfl⟩ : ∃ d, c1 = d + 1 := ⟨c1 - 1, by have := hI.1; omega⟩
        obtain ⟨g1, off, rfl, hlt, hat⟩ := hI.at_ (show 0 < m + 1 by omega)
        have k1 := boxesB_drop hs
        have k2 : boxesB (bs ++ [bs.getD 0 default]) = false := boxesB_again (by intro e; subst e; simp at hl)
        have hnc := hI.1
        have hlen := hI.len
        have b0 : (0 : Int) ≤ (m : Int) := by omega
        have b1 : (m : Int) ≤ (d : Int) := by omega
        have b2 : (0 : Int) < (m : Int) + 1 := by omega
        have b3 : (m : Int) + 1 ≤ (d : Int) + 1 := by omega
        have b4 : (1 : Int) ≤ (m : Int) + 1 := by omega
        have hne : ((m : Int) + 1 == 0) = false := by simp; omega
        have hne' : ¬ (m : Int) + 1 = 0 := by omega
        go_wp2_with (fail)
        refine (implBoxesValid_any _ _ _ _ _ hI).mono ?_
        rintro e w2 ⟨rfl, hb2⟩
        have hb3 := hb1.trans (hb2.mono hs1)
        have hs3 := hb3.size
        have hI2 := hI.below hb2
        rw [hs]
        go_wp2_with (fail)
        refine (specBoxesValid_any _ _ _ _ _ hI2).mono ?_
        rintro e w4 ⟨rfl, hb4⟩
        have hb5 := hb3.trans (hb4.mono hs3)
        have hs5 := hb5.size
        have hI4 := hI2.below hb4
        rw [hs]
        have hlt4 : g1 < w4.heap.size := Nat.lt_of_lt_of_le hlt (Nat.le_trans hb2.size hb4.size)
        obtain ⟨y, hy⟩ : ∃ y, bs.getD 0 default = y := ⟨_, rfl⟩
        have hat4 : BoxAt w4 g1 off y := by
          obtain ⟨b', off', e, _, hc⟩ := hI4.at_ (show 0 < m + 1 by omega)
          injection e with e
          injection e with e1 e2 e3
          subst e1 e2
          rwa [hy, Nat.zero_mul, Nat.add_zero] at hc
        rw [hy] at k2
        have far : ∀ W : World, Below w4.drew.heap.size w4.drew W → W.cell? ⟨g1, off, none⟩ = some (.int .i64 y.id) ∧ W.cell? ⟨g1, off + 1, none⟩ = some (.int .i64 y.wt) ∧ W.cell? ⟨g1, off + 2, none⟩ = some (.int .i64 y.cl) ∧ W.cell? ⟨g1, off + 3, none⟩ = some (.int .i64 y.po) ∧ W.cell? ⟨g1, off + 4, none⟩ = some (.bool y.co) := by
          intro W hW
          obtain ⟨c0, c1, c2, c3, c4⟩ := hat4
          exact ⟨(hW.cell (p := ⟨g1, _, none⟩) hlt4).trans c0, (hW.cell (p := ⟨g1, _, none⟩) hlt4).trans c1, (hW.cell (p := ⟨g1, _, none⟩) hlt4).trans c2, (hW.cell (p := ⟨g1, _, none⟩) hlt4).trans c3, (hW.cell (p := ⟨g1, _, none⟩) hlt4).trans c4⟩
        have hcells := far w4.drew (Below.refl _ _)
        have Far := Lib.hid far
        have hIv : IsBoxes w4.drew (some ⟨g1, off, none⟩) (m + 1) (d + 1) bs := hI4
        have hbd : Below w.heap.size w w4.drew := hb5.drew
        have hsd : w.heap.size ≤ w4.drew.heap.size := hs5
        have hcut : ∃ A', A' = (if d = 0 then some (⟨g1, off, none⟩ : Addr) else some ⟨g1, off + 5, none⟩) ∧ IsBoxes w4.drew A' m d (bs.drop 1) := by
          by_cases hd : d = 0
          · subst hd
            obtain rfl : m = 0 := by omega
            exact ⟨_, by rw [if_pos rfl], IsBoxes.tail0 hIv (by simp)⟩
          · exact ⟨_, by rw [if_neg hd], IsBoxes.tail hIv⟩
        obtain ⟨A', hA', hcutd⟩ := hcut
        have HIv := Lib.hid hIv
        clear hI hI2 hI4 hIv hb1 hb2 hb3 hb4 hb5 hs1 hs3 hs5 hat far hy hl hat4 H
        go_wp2_with (fail)
        rcases Nat.eq_zero_or_pos d with hd | hd
        · subst hd
          rw [if_pos rfl] at hA'
          subst hA'
          obtain rfl : m = 0 := by omega
          have HIv1 : Hid (IsBoxes w4.drew (some ⟨g1, off, none⟩) 1 1 bs) := HIv
          have hcutd : IsBoxes w4.drew (some ⟨g1, off, none⟩) 0 0 (bs.drop 1) := hcutd
          clear HIv hnc b0 b1 b2 b3 b4 hne hne' h0 hn1 hlen
          go_region_held3 (fun w' => w'.cell? ⟨g1, off, none⟩ = some (.int .i64 y.id) ∧ w'.cell? ⟨g1, off + 1, none⟩ = some (.int .i64 y.wt) ∧ w'.cell? ⟨g1, off + 2, none⟩ = some (.int .i64 y.cl) ∧ w'.cell? ⟨g1, off + 3, none⟩ = some (.int .i64 y.po) ∧ w'.cell? ⟨g1, off + 4, none⟩ = some (.bool y.co)) (first | assumption | exact Far1.out _ hb8 | exact Far1.out _ hb6 | exact Far1.out _ hb5 | exact Far1.out _ (hb5.alloc hs5 _) | exact Far1.out _ hbb | exact Far1.out _ (hbb.alloc (Nat.le_refl _) _) | exact Far1.out _ ((hbb.alloc (Nat.le_refl _) _).alloc (le_alloc (Nat.le_refl _) _) _))
            (first
              | (go_at_call 17; refine (implBoxesValid_any _ _ _ _ _ ho6.boxes).mono ?_; rintro e v7 ⟨rfl, hv7⟩; rw [k2]; have hb7 : Below w.heap.size w v7 := (hb1v.trans (hb6.mono hs1v)).trans (hv7.mono (Nat.le_trans hs1v hb6.size)); have hb8 : Below v1.heap.size v1 v7 := hb6.trans (hv7.mono hb6.size))
              | (refine step_append_boxes' rfl _ _ rfl v1.heap.size v5 1 bs rfl hr5 ⟨v1.heap.size + 1, 0, none⟩ 1 1 [y] rfl hOne (by omega) hs5 ?_
                 intro v6 w6 hr6 hg6
                 have hb6 : Below v1.heap.size v1 w6 := below_appendB hb5 hr5 hg6 hs5
                 obtain ⟨A6, c6, rfl, ho6⟩ := hr6.own)
              | (refine step_append_boxes' rfl _ _ rfl v1.heap.size v5 1 bs rfl hr5 ⟨v1.heap.size, 0, none⟩ 1 1 [y] rfl hOne (by omega) hs5 ?_
                 intro v6 w6 hr6 hg6
                 have hb6 : Below v1.heap.size v1 w6 := below_appendB hb5 hr5 hg6 hs5
                 obtain ⟨A6, c6, rfl, ho6⟩ := hr6.own)
              | (refine step_append_boxes' rfl _ _ rfl v1.heap.size v5 1 bs rfl (hr5.alloc _) ⟨w5.heap.size, 0, none⟩ 1 1 [y] rfl (one_boxes _ _) (by omega) (le_alloc hs5 _) ?_
                 intro v6 w6 hr6 hg6
                 have hb6 : Below v1.heap.size v1 w6 := below_appendB (hb5.alloc hs5 _) (hr5.alloc _) hg6 (le_alloc hs5 _)
                 obtain ⟨A6, c6, rfl, ho6⟩ := hr6.own)
              | (refine step_append_boxes' rfl _ _ rfl v1.heap.size (.slice (some ⟨v1.heap.size, 0, none⟩) 0 0) 0 [] rfl (empty_rowB (w := v1) (Nat.le_refl _)) ⟨g1, off, none⟩ 1 1 bs rfl (hI1.alloc _) (by omega) (le_alloc (Nat.le_refl _) _) ?_
                 intro v5 w5 hr5 hg5; rw [Nat.zero_add, List.nil_append] at hr5
                 have hb5 : Below v1.heap.size v1 w5 := below_appendB (hbb.alloc (Nat.le_refl _) _) (empty_rowB (Nat.le_refl _)) hg5 (le_alloc (Nat.le_refl _) _)
                 have hs5 := hb5.size)
              | (refine step_append_boxes' rfl _ _ rfl v1.heap.size (.slice (some ⟨v1.heap.size, 0, none⟩) 0 0) 0 [] rfl ((empty_rowB (w := v1) (Nat.le_refl _)).alloc _) ⟨g1, off, none⟩ 1 1 bs rfl ((hI1.alloc _).alloc _) (by omega) (le_alloc (le_alloc (Nat.le_refl _) _) _) ?_
                 intro v5 w5 hr5 hg5; rw [Nat.zero_add, List.nil_append] at hr5
                 have hb5 : Below v1.heap.size v1 w5 := below_appendB ((hbb.alloc (Nat.le_refl _) _).alloc (le_alloc (Nat.le_refl _) _) _) ((empty_rowB (w := v1) (Nat.le_refl _)).alloc _) hg5 (le_alloc (le_alloc (Nat.le_refl _) _) _)
                 have hs5 := hb5.size
                 have hOne : IsBoxes w5 (some ⟨v1.heap.size + 1, 0, none⟩) 1 1 [y] := ((one_made (v1.alloc (.cells #[] 25)) y (v1.heap.size + 1) (by simp)).keep (hg5.block (v1.heap.size + 1) (by simp) (by simp [Value.ownBlock])) hg5.size).boxes)
              | (refine step_append_boxes' rfl _ _ rfl v1.heap.size (.slice (some ⟨v1.heap.size + 1, 0, none⟩) 0 0) 0 [] rfl (empty_rowB' (w := v1.alloc (.cells #[.int .i64 y.id, .int .i64 y.wt, .int .i64 y.cl, .int .i64 y.po, .bool y.co] 25)) (v1.heap.size + 1) (by simp) (le_alloc (Nat.le_refl _) _)) ⟨g1, off, none⟩ 1 1 bs rfl ((hI1.alloc _).alloc _) (by omega) (le_alloc (le_alloc (Nat.le_refl _) _) _) ?_
                 intro v5 w5 hr5 hg5; rw [Nat.zero_add, List.nil_append] at hr5
                 have hb5 : Below v1.heap.size v1 w5 := below_appendB ((hbb.alloc (Nat.le_refl _) _).alloc (le_alloc (Nat.le_refl _) _) _) (empty_rowB' (w := v1.alloc (.cells #[.int .i64 y.id, .int .i64 y.wt, .int .i64 y.cl, .int .i64 y.po, .bool y.co] 25)) (v1.heap.size + 1) (by simp) (le_alloc (Nat.le_refl _) _)) hg5 (le_alloc (le_alloc (Nat.le_refl _) _) _)
                 have hs5 := hb5.size
                 have hOne : IsBoxes w5 (some ⟨v1.heap.size, 0, none⟩) 1 1 [y] := (((one_made v1 y v1.heap.size rfl).below ((Below.refl _ _).alloc (Nat.le_refl _) _)).keep (hg5.block v1.heap.size (by simp; omega) (by simp [Value.ownBlock])) hg5.size).boxes)
              | (go_at_call 17; refine (implBoxesValid_any _ _ _ _ _ hcutd).mono ?_; rintro e v1 ⟨rfl, hv1⟩; rw [k1]
                 have hI1 := HIv1.out.below hv1
                 have hb1v := hbd.trans (hv1.mono hsd)
                 have hs1v := hb1v.size
                 have hbb : Below v1.heap.size v1 v1 := Below.refl _ _
                 have far1 := fun (W : World) (hW : Below v1.heap.size v1 W) => Far.out W (Below.trans (b := v1) hv1 (hW.mono hv1.size))
                 have Far1 := Lib.hid far1
                 clear far1))
          all_goals go_wp2_with (fail)
          all_goals go_ret
          all_goals exact ⟨rfl, hb7⟩
        · rw [if_neg (by omega)] at hA'
          subst hA'
          have hd' : ¬ d = 0 := by omega
          go_region_held3 (fun w' => w'.cell? ⟨g1, off, none⟩ = some (.int .i64 y.id) ∧ w'.cell? ⟨g1, off + 1, none⟩ = some (.int .i64 y.wt) ∧ w'.cell? ⟨g1, off + 2, none⟩ = some (.int .i64 y.cl) ∧ w'.cell? ⟨g1, off + 3, none⟩ = some (.int .i64 y.po) ∧ w'.cell? ⟨g1, off + 4, none⟩ = some (.bool y.co)) (first | assumption | exact Far1.out _ hb8 | exact Far1.out _ hb6 | exact Far1.out _ hb5 | exact Far1.out _ (hb5.alloc hs5 _) | exact Far1.out _ hbb | exact Far1.out _ (hbb.alloc (Nat.le_refl _) _) | exact Far1.out _ ((hbb.alloc (Nat.le_refl _) _).alloc (le_alloc (Nat.le_refl _) _) _))
            (first
              | (go_at_call 17; refine (implBoxesValid_any _ _ _ _ _ ho6.boxes).mono ?_; rintro e v7 ⟨rfl, hv7⟩; rw [k2]; have hb7 : Below w.heap.size w v7 := (hb1v.trans (hb6.mono hs1v)).trans (hv7.mono (Nat.le_trans hs1v hb6.size)); have hb8 : Below v1.heap.size v1 v7 := hb6.trans (hv7.mono hb6.size))
              | (refine step_append_boxes' rfl _ _ rfl v1.heap.size v5 (m + 1) bs rfl hr5 ⟨v1.heap.size + 1, 0, none⟩ 1 1 [y] rfl hOne (by omega) hs5 ?_
                 intro v6 w6 hr6 hg6
                 have hb6 : Below v1.heap.size v1 w6 := below_appendB hb5 hr5 hg6 hs5
                 obtain ⟨A6, c6, rfl, ho6⟩ := hr6.own)
              | (refine step_append_boxes' rfl _ _ rfl v1.heap.size v5 (m + 1) bs rfl hr5 ⟨v1.heap.size, 0, none⟩ 1 1 [y] rfl hOne (by omega) hs5 ?_
                 intro v6 w6 hr6 hg6
                 have hb6 : Below v1.heap.size v1 w6 := below_appendB hb5 hr5 hg6 hs5
                 obtain ⟨A6, c6, rfl, ho6⟩ := hr6.own)
              | (refine step_append_boxes' rfl _ _ rfl v1.heap.size v5 (m + 1) bs rfl (hr5.alloc _) ⟨w5.heap.size, 0, none⟩ 1 1 [y] rfl (one_boxes _ _) (by omega) (le_alloc hs5 _) ?_
                 intro v6 w6 hr6 hg6
                 have hb6 : Below v1.heap.size v1 w6 := below_appendB (hb5.alloc hs5 _) (hr5.alloc _) hg6 (le_alloc hs5 _)
                 obtain ⟨A6, c6, rfl, ho6⟩ := hr6.own)
              | (refine step_append_boxes' rfl _ _ rfl v1.heap.size (.slice (some ⟨v1.heap.size, 0, none⟩) 0 0) 0 [] rfl (empty_rowB (w := v1) (Nat.le_refl _)) ⟨g1, off, none⟩ (m + 1) (d + 1) bs rfl (hI1.alloc _) (by omega) (le_alloc (Nat.le_refl _) _) ?_
                 intro v5 w5 hr5 hg5; rw [Nat.zero_add, List.nil_append] at hr5
                 have hb5 : Below v1.heap.size v1 w5 := below_appendB (hbb.alloc (Nat.le_refl _) _) (empty_rowB (Nat.le_refl _)) hg5 (le_alloc (Nat.le_refl _) _)
                 have hs5 := hb5.size)
              | (refine step_append_boxes' rfl _ _ rfl v1.heap.size (.slice (some ⟨v1.heap.size, 0, none⟩) 0 0) 0 [] rfl ((empty_rowB (w := v1) (Nat.le_refl _)).alloc _) ⟨g1, off, none⟩ (m + 1) (d + 1) bs rfl ((hI1.alloc _).alloc _) (by omega) (le_alloc (le_alloc (Nat.le_refl _) _) _) ?_
                 intro v5 w5 hr5 hg5; rw [Nat.zero_add, List.nil_append] at hr5
                 have hb5 : Below v1.heap.size v1 w5 := below_appendB ((hbb.alloc (Nat.le_refl _) _).alloc (le_alloc (Nat.le_refl _) _) _) ((empty_rowB (w := v1) (Nat.le_refl _)).alloc _) hg5 (le_alloc (le_alloc (Nat.le_refl _) _) _)
                 have hs5 := hb5.size
                 have hOne : IsBoxes w5 (some ⟨v1.heap.size + 1, 0, none⟩) 1 1 [y] := ((one_made (v1.alloc (.cells #[] 25)) y (v1.heap.size + 1) (by simp)).keep (hg5.block (v1.heap.size + 1) (by simp) (by simp [Value.ownBlock])) hg5.size).boxes)
              | (refine step_append_boxes' rfl _ _ rfl v1.heap.size (.slice (some ⟨v1.heap.size + 1, 0, none⟩) 0 0) 0 [] rfl (empty_rowB' (w := v1.alloc (.cells #[.int .i64 y.id, .int .i64 y.wt, .int .i64 y.cl, .int .i64 y.po, .bool y.co] 25)) (v1.heap.size + 1) (by simp) (le_alloc (Nat.le_refl _) _)) ⟨g1, off, none⟩ (m + 1) (d + 1) bs rfl ((hI1.alloc _).alloc _) (by omega) (le_alloc (le_alloc (Nat.le_refl _) _) _) ?_
                 intro v5 w5 hr5 hg5; rw [Nat.zero_add, List.nil_append] at hr5
                 have hb5 : Below v1.heap.size v1 w5 := below_appendB ((hbb.alloc (Nat.le_refl _) _).alloc (le_alloc (Nat.le_refl _) _) _) (empty_rowB' (w := v1.alloc (.cells #[.int .i64 y.id, .int .i64 y.wt, .int .i64 y.cl, .int .i64 y.po, .bool y.co] 25)) (v1.heap.size + 1) (by simp) (le_alloc (Nat.le_refl _) _)) hg5 (le_alloc (le_alloc (Nat.le_refl _) _) _)
                 have hs5 := hb5.size
                 have hOne : IsBoxes w5 (some ⟨v1.heap.size, 0, none⟩) 1 1 [y] := (((one_made v1 y v1.heap.size rfl).below ((Below.refl _ _).alloc (Nat.le_refl _) _)).keep (hg5.block v1.heap.size (by simp; omega) (by simp [Value.ownBlock])) hg5.size).boxes)
              | (go_at_call 17; refine (implBoxesValid_any _ _ _ _ _ hcutd).mono ?_; rintro e v1 ⟨rfl, hv1⟩; rw [k1]
                 have hI1 := HIv.out.below hv1
                 have hb1v := hbd.trans (hv1.mono hsd)
                 have hs1v := hb1v.size
                 have hbb : Below v1.heap.size v1 v1 := Below.refl _ _
                 have far1 := fun (W : World) (hW : Below v1.heap.size v1 W) => Far.out W (Below.trans (b := v1) hv1 (hW.mono hv1.size))
                 have Far1 := Lib.hid far1
                 clear far1))
          all_goals go_wp2_with (fail)
          all_goals go_ret
          all_goals exact ⟨rfl, hb7⟩
end Go.Proofs.Ytbhmbmfhbeocoaa
