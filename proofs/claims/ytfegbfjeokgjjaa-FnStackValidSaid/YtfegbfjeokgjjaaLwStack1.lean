/- The walk of the law FnStackValid. Conditions: that the code reads as bytes. -/
import Derived.Test.YtfegbfjeokgjjaaLwStack
import Derived.Test.YtfegbfjeokgjjaaDrStack2
import Derived.Test.YtfegbfjeokgjjaaNum
import Derived.Deep.RegionHeld3
namespace Go.Proofs.Ytfegbfjeokgjjaa
open Go.RowKit
set_option linter.unusedVariables false

/-- the same at a guarded operation -/
theorem step_append_ints' {ops : Array Oper} {o : Oper} {a : Act} {w : World} {K : Act → World → Prop} {Q : Exit → Act → World → Prop} {E : Prop} (hw : Region.wanted o (yielded ops a.tmps) = true) (s x : Operand)
    (ho : o.op = .call { callee := .builtin .append, args := #[s, x], argTypes := #[22, 22] })
    (B : Nat) (v : Value) (n : Nat) (xs : List Int) (hs : a.eval s = v) (hown : RowI w B v n xs)
    (ad : Addr) (m c : Nat) (ys : List Int) (hx : a.eval x = .slice (some ad) m c) (hr : Ints w (some ad) m c ys) (hnm : n + m ≤ 1000000000) (hB : B ≤ w.heap.size)
    (h : ∀ v' w', RowI w' B v' (n + m) (xs ++ ys) → w.grownBy w' v.ownBlock → K (a.put o.dst v') w') : if Region.wanted o (yielded ops a.tmps) = true then Oper.wp Try.prog o a w K Q else E := by
  rw [if_pos hw]
  obtain ⟨i0, hi, hz0, hz1, hz2⟩ := info_parts int_info
  refine wp_append_own w s x 22 ho B 3 i0 (.int .i64 0) 1 8 Try.underlying22 hi hz0 hz1 hz2 rfl (by omega) v n (cellsI xs) hs hown ad m c (cellsI ys) hx (by simp [cellsI, hr.length]) ?_ (cellsI_one ys) (by unfold maxLen; omega) (by omega) hB ?_
  · intro j u hu
    have hj : j < m := by
      have := (List.getElem?_eq_some_iff.1 hu).1
      simpa [cellsI, hr.length] using this
    obtain ⟨b, off, e, _, hc⟩ := hr.at_ hj
    injection e with e
    subst e
    have ea : (⟨b, off, none⟩ : Addr).add j = ⟨b, off + j, none⟩ := by
      unfold Addr.add
      by_cases h0 : j = 0
      · subst h0; simp
      · simp [h0]
    rw [ea, hc, ← hu]
    simp [cellsI, List.getElem?_map, List.getD, List.getElem?_eq_getElem (show j < ys.length by rw [hr.length]; exact hj)]
  · intro v' w' h1 h2 _
    exact h v' w' (by rw [RowI, cellsI_append]; exact h1) h2


theorem one_own' (w : World) (id : Int) (g : Nat) (hg : w.heap.size = g) : OwnAt (w.alloc (.cells #[.int .i64 id] 3)) g 1 1 [id] := by subst hg; exact one_own w id
theorem empty_row' {w : World} {B : Nat} (g : Nat) (hg : w.heap.size = g) (hB : B ≤ w.heap.size) : RowI (w.alloc (.cells #[] 3)) B (.slice (some ⟨g, 0, none⟩) 0 0) 0 [] := by subst hg; exact empty_row hB
set_option maxHeartbeats 1600000 in
theorem fnStackValid_walk (A : Option Addr) (n c : Nat) (zs : List Int) (w : World) (h : IsRow .u8 w A n c zs) :
    Calls Try.prog 7 #[.slice A n c] w fun e w' => e = .returned (.bool true) ∧ Below w.heap.size w w' := by
  by_cases hn : 1048576 < n
  · have hn' : (1048576 : Int) < n := by omega
    clear h
    go_enter Try.func7, Try.ntmps7
    go_wp2_with (fail)
    go_ret
    exact ⟨rfl, (by repeat' (first | with_reducible exact Below.refl _ _ | with_reducible assumption | with_reducible refine bel_step (by with_reducible assumption) ?_ ?_ | with_reducible refine Below.drew ?_ | with_reducible refine below_drewN ?_ _ | with_reducible refine Below.alloc ?_ ?_ _ | with_reducible refine Below.setCell ?_ ?_ _ | (simp; done) | (simp; omega) | omega | with_reducible refine below_le (by with_reducible assumption) ?_))⟩
  · have hn' : (n : Int) ≤ 1048576 := by omega
    have H := Lib.hid h
    clear h hn
    go_enter Try.func7, Try.ntmps7
    go_wp2_with (fail)
    refine (drawStackValid_any _ _ _ _ _ H.out).mono ?_
    rintro e w1 ⟨A1, n1, c1, xs, high, rfl, ho, hn1, hb1⟩
    have hs1 := hb1.size
    have hl := ho.ints.length
    have hI := ho.ints
    cases hs : stackB xs high with
    | false =>
      go_wp2_with (fail)
      refine (implStackValid_any _ _ _ _ _ _ hI).mono ?_
      rintro e w' ⟨rfl, rfl⟩
      go_wp2_with (fail)
      refine (specStackValid_any _ _ _ _ _ _ hI).mono ?_
      rintro e w2 ⟨rfl, hb2⟩
      have hb3 := hb1.trans (hb2.mono hs1)
      have hnil := stackB_nil
      go_wp2_with (first
        | (go_at_call 13; refine (implStackValid_any _ _ _ _ _ _ (Ints.nil _)).mono ?_; rintro e w' ⟨rfl, rfl⟩)
        | (go_at_call 24; refine (alive_any _).mono ?_; rintro e w' ⟨rfl, rfl⟩))
      go_ret
      exact ⟨rfl, hb3⟩
    | true =>
      by_cases h0 : n1 = 0
      · subst h0
        go_wp2_with (fail)
        refine (implStackValid_any _ _ _ _ _ _ hI).mono ?_
        rintro e w' ⟨rfl, rfl⟩
        go_wp2_with (fail)
        refine (specStackValid_any _ _ _ _ _ _ hI).mono ?_
        rintro e w2 ⟨rfl, hb2⟩
        have hb3 := hb1.trans (hb2.mono hs1)
        have hnil := stackB_nil
        go_wp2_with (first
          | (go_at_call 13; refine (implStackValid_any _ _ _ _ _ _ (Ints.nil _)).mono ?_; rintro e w' ⟨rfl, rfl⟩)
          | (go_at_call 24; refine (alive_any _).mono ?_; rintro e w' ⟨rfl, rfl⟩))
        go_ret
        exact ⟨rfl, hb3⟩
      · rcases ho with ⟨_, e, _⟩ | ⟨g1, rfl, hg1, ho1⟩
        · exact absurd e h0
        obtain ⟨m, rfl⟩ : ∃ m, n1 = m + 1 := ⟨n1 - 1, by omega⟩
        have hc0 := ho1.cell (k := m) (by omega)
        have hlt := ho1.lt
        have k1 := stackB_take hs m
        have k2 : stackB (xs ++ [xs.getD m 0]) high = false := stackB_dup (by have := has_last (xs := xs) (by omega); rwa [show xs.length - 1 = m by omega] at this)
        have hnc := hI.1
        have hcm := hI.2.1
        have hlen := hI.len
        have b1 : (0 : Int) ≤ (m : Int) := by omega
        have b2 : (m : Int) ≤ (c1 : Int) := by omega
        have b3 : (m : Int) < (m : Int) + 1 := by omega
        have hne : ((m : Int) + 1 == 0) = false := by simp; omega
        have hne' : ¬ (m : Int) + 1 = 0 := by omega
        have hw1 : IntKind.i64.wrap (m : Int) = m := IntWalk.i64_in _ (by omega)
        go_wp2_with (fail)
        refine (implStackValid_any _ _ _ _ _ _ hI).mono ?_
        rintro e w' ⟨rfl, rfl⟩
        go_wp2_with (fail)
        refine (specStackValid_any _ _ _ _ _ _ hI).mono ?_
        rintro e w2 ⟨rfl, hb2⟩
        have hI2 := hI.below hb2
        have hc2 := (hb2.cell (p := ⟨g1, m, none⟩) hlt).trans hc0
        have hb3 := hb1.trans (hb2.mono hs1)
        have hs3 := hb3.size
        have hcut := hI2.cut (show m ≤ m + 1 by omega)
        go_wp2_with (fail)
        obtain ⟨u, hu⟩ : ∃ u, xs.getD m 0 = u := ⟨_, rfl⟩
        rw [hu] at hc2 k2
        clear hc0 hu ho1 hI
        have hcutd : Ints w2.drew (some ⟨g1, 0, none⟩) m c1 (xs.take m) := hcut
        have hId : Ints w2.drew (some ⟨g1, 0, none⟩) (m + 1) c1 xs := hI2
        have hbd : Below w.heap.size w w2.drew := hb3.drew
        have hsd : w.heap.size ≤ w2.drew.heap.size := hs3
        have hld : g1 < w2.drew.heap.size := Nat.lt_of_lt_of_le hlt hb2.size
        have hcd : w2.drew.cell? ⟨g1, m, none⟩ = some (.int .i64 u) := hc2
        have hbb : Below w2.drew.heap.size w2.drew w2.drew := Below.refl _ _
        clear hcut hI2 hb3 hs3 hb2 hc2
        have far : ∀ W : World, Below w2.drew.heap.size w2.drew W → W.cell? ⟨g1, m, none⟩ = some (.int .i64 u) := fun W hW => (hW.cell (p := ⟨g1, m, none⟩) hld).trans hcd
        have Far := Lib.hid far
        clear far
        go_region_held3 (fun w' => w'.cell? ⟨g1, m, none⟩ = some (.int .i64 u)) (first | assumption | exact Far.out _ hb6 | exact Far.out _ hb5 | exact Far.out _ (hb5.alloc hs5 _) | exact Far.out _ (hbb.alloc (Nat.le_refl _) _) | exact Far.out _ ((hbb.alloc (Nat.le_refl _) _).alloc (le_alloc (Nat.le_refl _) _) _))
          (first
            | (refine step_append_ints' rfl _ _ rfl w2.drew.heap.size v5 (m + 1) xs rfl hr5 ⟨w2.heap.size + 1, 0, none⟩ 1 1 [u] rfl hOne (by omega) hs5 ?_
               intro v6 w6 hr6 hg6
               have hb6 : Below w2.drew.heap.size w2.drew w6 := below_append hb5 hr5 hg6 hs5
               obtain ⟨A6, c6, rfl, ho6⟩ := hr6.own)
            | (refine step_append_ints' rfl _ _ rfl w2.drew.heap.size v5 (m + 1) xs rfl hr5 ⟨w2.heap.size, 0, none⟩ 1 1 [u] rfl hOne (by omega) hs5 ?_
               intro v6 w6 hr6 hg6
               have hb6 : Below w2.drew.heap.size w2.drew w6 := below_append hb5 hr5 hg6 hs5
               obtain ⟨A6, c6, rfl, ho6⟩ := hr6.own)
            | (refine step_append_ints' rfl _ _ rfl w2.drew.heap.size v5 (m + 1) xs rfl (hr5.alloc _) ⟨w5.heap.size, 0, none⟩ 1 1 [u] rfl (one_ints _ _) (by omega) (le_alloc hs5 _) ?_
               intro v6 w6 hr6 hg6
               have hb6 : Below w2.drew.heap.size w2.drew w6 := below_append (hb5.alloc hs5 _) (hr5.alloc _) hg6 (le_alloc hs5 _)
               obtain ⟨A6, c6, rfl, ho6⟩ := hr6.own)
            | (refine step_append_ints' rfl _ _ rfl w2.drew.heap.size (.slice (some ⟨w2.heap.size, 0, none⟩) 0 0) 0 [] rfl (empty_row (w := w2.drew) (Nat.le_refl _)) ⟨g1, 0, none⟩ (m + 1) c1 xs rfl (hId.alloc _) (by omega) (le_alloc (Nat.le_refl _) _) ?_
               intro v5 w5 hr5 hg5; rw [Nat.zero_add, List.nil_append] at hr5
               have hb5 : Below w2.drew.heap.size w2.drew w5 := below_append (hbb.alloc (Nat.le_refl _) _) (empty_row (Nat.le_refl _)) hg5 (le_alloc (Nat.le_refl _) _)
               have hs5 := hb5.size)
            | (refine step_append_ints' rfl _ _ rfl w2.drew.heap.size (.slice (some ⟨w2.heap.size, 0, none⟩) 0 0) 0 [] rfl ((empty_row (w := w2.drew) (Nat.le_refl _)).alloc _) ⟨g1, 0, none⟩ (m + 1) c1 xs rfl ((hId.alloc _).alloc _) (by omega) (le_alloc (le_alloc (Nat.le_refl _) _) _) ?_
               intro v5 w5 hr5 hg5; rw [Nat.zero_add, List.nil_append] at hr5
               have hb5 : Below w2.drew.heap.size w2.drew w5 := below_append ((hbb.alloc (Nat.le_refl _) _).alloc (le_alloc (Nat.le_refl _) _) _) ((empty_row (w := w2.drew) (Nat.le_refl _)).alloc _) hg5 (le_alloc (le_alloc (Nat.le_refl _) _) _)
               have hs5 := hb5.size
               have hOne : Ints w5 (some ⟨w2.heap.size + 1, 0, none⟩) 1 1 [u] := ((one_own' (w2.drew.alloc (.cells #[] 3)) u (w2.heap.size + 1) (by simp)).keep (hg5.block (w2.heap.size + 1) (by simp) (by simp [Value.ownBlock]))).ints)
            | (refine step_append_ints' rfl _ _ rfl w2.drew.heap.size (.slice (some ⟨w2.heap.size + 1, 0, none⟩) 0 0) 0 [] rfl (empty_row' (w := w2.drew.alloc (.cells #[.int .i64 u] 3)) (w2.heap.size + 1) (by simp) (le_alloc (Nat.le_refl _) _)) ⟨g1, 0, none⟩ (m + 1) c1 xs rfl ((hId.alloc _).alloc _) (by omega) (le_alloc (le_alloc (Nat.le_refl _) _) _) ?_
               intro v5 w5 hr5 hg5; rw [Nat.zero_add, List.nil_append] at hr5
               have hb5 : Below w2.drew.heap.size w2.drew w5 := below_append ((hbb.alloc (Nat.le_refl _) _).alloc (le_alloc (Nat.le_refl _) _) _) (empty_row' (w := w2.drew.alloc (.cells #[.int .i64 u] 3)) (w2.heap.size + 1) (by simp) (le_alloc (Nat.le_refl _) _)) hg5 (le_alloc (le_alloc (Nat.le_refl _) _) _)
               have hs5 := hb5.size
               have hOne : Ints w5 (some ⟨w2.heap.size, 0, none⟩) 1 1 [u] := ((one_own w2.drew u).below ((Below.refl _ _).alloc (Nat.le_refl _) _) |>.keep (hg5.block w2.heap.size (by simp; omega) (by simp [Value.ownBlock]))).ints)
            | (go_at_call 13; refine (implStackValid_any _ _ _ _ _ _ ho6.ints).mono ?_; rintro e w' ⟨rfl, rfl⟩; rw [k2])
            | (go_at_call 13; refine (implStackValid_any _ _ _ _ _ _ hcutd).mono ?_; rintro e w' ⟨rfl, rfl⟩; rw [k1]))
        all_goals go_wp2_with (fail)
        all_goals go_ret
        all_goals exact ⟨rfl, hbd.trans (hb6.mono hsd)⟩
end Go.Proofs.Ytfegbfjeokgjjaa
