/- spec.StackPut, spec.StackTake at slices that read as lists; marking a row of the call's own. Conditions: those in each statement. -/
import Derived.Test.YtfegbfjeokgjjaaApp
import Derived.RegionTactic
namespace Go.Proofs.Ytfegbfjeokgjjaa
open Go.RowKit
set_option linter.unusedVariables false

theorem empty_own (w : World) : OwnAt (w.alloc (.cells #[] 3)) w.heap.size 0 0 [] := ⟨#[], heap_alloc_new w _, rfl, Nat.le_refl _, Nat.zero_le _, rfl, fun j hj => absurd hj (by omega)⟩
theorem empty_row {w : World} {B : Nat} (hB : B ≤ w.heap.size) : RowI (w.alloc (.cells #[] 3)) B (.slice (some ⟨w.heap.size, 0, none⟩) 0 0) 0 [] := RowI.of_own (.inr ⟨_, rfl, hB, empty_own w⟩)
theorem below_row {w w1 : World} {B n : Nat} {v : Value} {xs : List Int} (h : RowI w B v n xs) (hb : Below w.heap.size w w1) : RowI w1 B v n xs := by
  obtain ⟨A, c, rfl, ho⟩ := h.own
  exact RowI.of_own (ho.below hb)
theorem le_alloc {B : Nat} {w : World} (h : B ≤ w.heap.size) (o : Obj) : B ≤ (w.alloc o).heap.size := Nat.le_trans h ((Below.refl 0 w).alloc (Nat.zero_le _) o).size

/-- the append of wpList_append_ints at a step of a region that draws -/
theorem step_append_ints {ops : Array Oper} {o : Oper} {a : Act} {w : World} {K : Act → World → Prop} {Q : Exit → Act → World → Prop} {E : Prop} (hgd : o.guard = none) (s x : Operand)
    (ho : o.op = .call { callee := .builtin .append, args := #[s, x], argTypes := #[22, 22] })
    (B : Nat) (v : Value) (n : Nat) (xs : List Int) (hs : a.eval s = v) (hown : RowI w B v n xs)
    (ad : Addr) (m c : Nat) (ys : List Int) (hx : a.eval x = .slice (some ad) m c) (hr : Ints w (some ad) m c ys) (hnm : n + m ≤ 1000000000) (hB : B ≤ w.heap.size)
    (h : ∀ v' w', RowI w' B v' (n + m) (xs ++ ys) → w.grownBy w' v.ownBlock → K (a.put o.dst v') w') : if Region.wanted o (yielded ops a.tmps) = true then Oper.wp Try.prog o a w K Q else E := by
  have hw : Region.wanted o (yielded ops a.tmps) = true := by simp [Region.wanted, hgd]
  rw [if_pos hw]
  obtain ⟨i0, hi, hz0, hz1, hz2⟩ := info_parts int_info
  refine wp_append_own w s x 22 ho B 3 i0 (.int .i64 0) 1 8 Try.underlying22 hi hz0 hz1 hz2 rfl (by omega) v n (cellsI xs) hs hown ad m c (cellsI ys) hx (by simp [cellsI, hr.length]) ?_ (cellsI_one ys) (by unfold maxLen; omega) (by omega) hB ?_
  · intro j u hu
    have hj : j < m := by
      have := (List.getElem?_eq_some_iff.1 hu).1
      simpa [cellsI, hr.length] using this
    obtain ⟨b, off, e, _, hc⟩ := hr.at_ hj
    injection e with e
    subst e
    have ea : (⟨b, off, none⟩ : Addr).add j = ⟨b, off + j, none⟩ := by
      unfold Addr.add
      by_cases h0 : j = 0
      · subst h0; simp
      · simp [h0]
    rw [ea, hc, ← hu]
    simp [cellsI, List.getElem?_map, List.getD, List.getElem?_eq_getElem (show j < ys.length by rw [hr.length]; exact hj)]
  · intro v' w' h1 h2 _
    exact h v' w' (by rw [RowI, cellsI_append]; exact h1) h2

set_option maxHeartbeats 800000 in
theorem specStackPut_any (A : Option Addr) (n c : Nat) (xs : List Int) (high id : Int) (w : World) (h : Ints w A n c xs) (hn : n ≤ 1048576) :
    Calls Try.prog 15 #[.slice A n c, .int .i64 high, .int .i64 id] w (PutPost w xs high id) := by
  have H := Lib.hid h
  cases hs : stackB xs high with
  | false =>
    go_enter Try.func15, Try.ntmps15
    go_wp2_with (go_at_call 11; refine (specStackValid_any _ _ _ _ _ _ H.out).mono ?_; rintro e w1 ⟨rfl, hb1⟩)
    have hb2 := hb1.alloc hb1.size (.cells #[] 3)
    have hr2 := empty_own w1
    have hz := hb1.size
    go_ret2
    exact ⟨some ⟨w1.heap.size, 0, none⟩, 0, 0, by simp [putOk, hs], .inr ⟨_, rfl, hz, by simpa [putL, hs] using hr2⟩, hb2⟩
  | true =>
    go_enter Try.func15, Try.ntmps15
    go_wp2_with (first
      | (at_builtin; refine wpList_append_ints rfl _ _ rfl w.heap.size v3 n xs rfl (hr3.alloc _) (some ⟨w3.heap.size, 0, none⟩) 1 1 [id] rfl (one_ints _ _) (by omega) (le_alloc hs3 _) ?_; intro v4 w4 hr4 hg4; obtain ⟨A4, c4, rfl, ho4⟩ := hr4.own
         have hb4 : Below w.heap.size w w4 := below_append (hb3.alloc hs3 _) (hr3.alloc _) hg4 (le_alloc hs3 _)
         clear hr3 hg4 hb3)
      | (at_builtin; refine wpList_append_ints rfl _ _ rfl w.heap.size (.slice (some ⟨w1.heap.size, 0, none⟩) 0 0) 0 [] rfl (empty_row hs1) A n c xs rfl ((H.out.below hb1).alloc _) (by omega) (le_alloc hs1 _) ?_; intro v3 w3 hr3 hg3; rw [Nat.zero_add, List.nil_append] at hr3
         have hb3 : Below w.heap.size w w3 := below_append (hb1.alloc hs1 _) (empty_row hs1) hg3 (le_alloc hs1 _)
         have hs3 := hb3.size
         clear hg3)
      | (go_at_call 11; refine (specStackValid_any _ _ _ _ _ _ ho4.ints).mono ?_; rintro e w5 ⟨rfl, hb5⟩
         have ho5 := ho4.below hb5
         have hb6 := hb4.trans (hb5.mono hb4.size)
         have hs6 := hb6.size
         clear ho4 hb5 hb4)
      | (go_at_call 11; refine (specStackValid_any _ _ _ _ _ _ H.out).mono ?_; rintro e w1 ⟨rfl, hb1⟩; have hs1 := hb1.size)
      | (at_builtin; refine wpList_append_ints rfl _ _ rfl w.heap.size (.slice (some ⟨w5.heap.size, 0, none⟩) 0 0) 0 [] rfl (empty_row hs6) A n c xs rfl ((H.out.below hb6).alloc _) (by omega) (le_alloc hs6 _) ?_; intro v7 w7 hr7 hg7; rw [Nat.zero_add, List.nil_append] at hr7
         have hb7 : Below w.heap.size w w7 := below_append (hb6.alloc hs6 _) (empty_row hs6) hg7 (le_alloc hs6 _)
         obtain ⟨A7, c7, rfl, ho7⟩ := hr7.own
         clear hr7 hg7))
    · rename_i h1
      have h2 : stackB (xs ++ [id]) high = false := by simpa using h1
      go_ret2
      exact ⟨A7, n, c7, by simp [putOk, hs, h2], by simpa [putL, hs, h2] using ho7, hb7⟩
    · rename_i h1
      have h2 : stackB (xs ++ [id]) high = true := by simpa using h1
      go_ret2
      exact ⟨A4, n + 1, c4, by simp [putOk, hs, h2], by simpa [putL, hs, h2] using ho5, hb6⟩

set_option maxHeartbeats 800000 in
theorem specStackTake_any (A : Option Addr) (n c : Nat) (xs : List Int) (high : Int) (w : World) (h : Ints w A n c xs) (hn : n ≤ 1048576) :
    Calls Try.prog 19 #[.slice A n c, .int .i64 high] w (TakePost w xs high) := by
  have H := Lib.hid h
  have hl := h.length
  cases hs : stackB xs high with
  | false =>
    go_enter Try.func19, Try.ntmps19
    go_wp2_with (go_at_call 11; refine (specStackValid_any _ _ _ _ _ _ H.out).mono ?_; rintro e w1 ⟨rfl, hb1⟩)
    have hb2 := hb1.alloc hb1.size (.cells #[] 3)
    have hr2 := empty_own w1
    have hz := hb1.size
    go_ret2
    exact ⟨some ⟨w1.heap.size, 0, none⟩, 0, 0, by simp [takeV, takeB, hs], .inr ⟨_, rfl, hz, by simpa [takeL, takeB, hs] using hr2⟩, hb2⟩
  | true =>
    by_cases h0 : n = 0
    · subst h0
      clear h
      go_enter Try.func19, Try.ntmps19
      go_wp2_with (go_at_call 11; refine (specStackValid_any _ _ _ _ _ _ H.out).mono ?_; rintro e w1 ⟨rfl, hb1⟩)
      have hb2 := hb1.alloc hb1.size (.cells #[] 3)
      have hr2 := empty_own w1
      have hz := hb1.size
      go_ret2
      exact ⟨some ⟨w1.heap.size, 0, none⟩, 0, 0, by simp [takeV, takeB, hs, hl], .inr ⟨_, rfl, hz, by simpa [takeL, takeB, hs, hl] using hr2⟩, hb2⟩
    · obtain ⟨m, rfl⟩ : ∃ m, n = m + 1 := ⟨n - 1, by omega⟩
      have ht : takeB xs high = true := by simp [takeB, hs]; intro e; subst e; simp at hl
      obtain ⟨b, off, rfl, hlt, hc⟩ := h.at_ (show m < m + 1 by omega)
      have hcut := h.cut (show m ≤ m + 1 by omega)
      have HC := Lib.hid hcut
      have hnc := h.1
      have hcm := h.2.1
      have hlen := h.len
      have b1 : (0 : Int) ≤ (m : Int) := by omega
      have b2 : (m : Int) ≤ (c : Int) := by omega
      have b3 : (m : Int) < (m : Int) + 1 := by omega
      have hne : ((m : Int) + 1 == 0) = false := by simp; omega
      have hne' : ¬ (m : Int) + 1 = 0 := by omega
      have HL := Lib.hid hl
      clear h hcut h0 hl
      have hw1 : IntKind.i64.wrap (m : Int) = m := IntWalk.i64_in _ (by omega)
      go_enter Try.func19, Try.ntmps19
      go_wp2_with (go_at_call 11; refine (specStackValid_any _ _ _ _ _ _ H.out).mono ?_; rintro e w1 ⟨rfl, hb1⟩; have hs1 := hb1.size)
      have hb2 : Below w.heap.size w w1.drew := hb1.drew
      have hs2 : w.heap.size ≤ w1.drew.heap.size := hs1
      have hlt1 : b < w1.drew.heap.size := Nat.lt_of_lt_of_le hlt hs2
      have hc1 := (hb2.cell (p := ⟨b, off + m, none⟩) hlt).trans hc
      go_region_held3 (fun w' => w'.cell? ⟨b, off + m, none⟩ = some (.int .i64 (xs.getD m 0))) (first | assumption | exact (World.cell?_of_block (a := ⟨b, off + m, none⟩) (Below.heap_alloc w1.drew _ b hlt1)).trans hc1 | exact (hb3.cell (p := ⟨b, off + m, none⟩) hlt).trans hc)
        (first
          | (refine step_append_ints rfl _ _ rfl w.heap.size (.slice (some ⟨w1.heap.size, 0, none⟩) 0 0) 0 [] rfl (empty_row (w := w1.drew) hs2) ⟨b, off, none⟩ m c (xs.take m) rfl ((HC.out.below hb2).alloc _) (by omega) (le_alloc hs2 _) ?_
             intro v3 w3 hr3 hg3; rw [Nat.zero_add, List.nil_append] at hr3
             have hb3 : Below w.heap.size w w3 := below_append (hb2.alloc hs2 _) (empty_row hs2) hg3 (le_alloc hs2 _)))
      obtain ⟨A3, c3, rfl, ho3⟩ := hr3.own
      go_wp2_with (fail)
      go_ret2
      exact ⟨A3, m, c3, by simp [takeV, ht, HL.out, List.getD], by simpa [takeL, ht, HL.out] using ho3, hb3⟩

/-- marking a row of the call's own: the marks stand in it, and no other block has turned -/
theorem markOwn_any (B : Nat) (A : Option Addr) (n c : Nat) (xs : List Int) (k : Int) (w : World) (h : Own w B A n c xs) (hk0 : 0 ≤ k) (hk : k ≤ 1000000000000) (hn : n ≤ 1000000000000) :
    Calls Try.prog 17 #[.slice A n c, .int .i64 k] w fun e w' => e = .returned (.int .i64 (k + n)) ∧ Own w' B A n c (ramp k n) ∧ w.grownBy w' (Value.slice A n c).ownBlock ∧ (B ≤ w.heap.size → Below B w w') := by
  rcases h with ⟨rfl, rfl, rfl, rfl⟩ | ⟨g, rfl, hg, ho⟩
  · refine (markIntS_none none 0 k w).mono ?_
    rintro e w' ⟨rfl, rfl⟩
    exact ⟨by simp, .inl ⟨rfl, rfl, rfl, rfl⟩, World.grownBy.refl w _, fun _ => Below.refl _ _⟩
  · refine (markIntS_any g n c xs k w ho hk0 hk hn).mono ?_
    rintro e w' ⟨rfl, h1, h2⟩
    exact ⟨rfl, .inr ⟨g, rfl, hg, h1⟩, h2, fun hB => ⟨h2.os, h2.tape, h2.output, h2.size, fun i hi => h2.block i (by omega) (fun e => by injection e with e; omega)⟩⟩

/-- a row above B is not touched by what turns a block below B alone -/
theorem Own.kept {w w' : World} {B n c n' c' : Nat} {A A' : Option Addr} {xs ys : List Int} (h : Own w B A n c xs) (hg : w.grownBy w' (Value.slice A' n' c').ownBlock) (B' : Nat) (h' : ∀ g, (Value.slice A' n' c').ownBlock = some g → g < B) : Own w' B A n c xs := by
  refine h.grown hg (fun g e e2 => ?_)
  rcases h with ⟨rfl, _⟩ | ⟨g1, rfl, h1, _⟩
  · cases e
  · injection e with e
    injection e with e
    subst e
    have := h' _ e2.symm
    omega
end Go.Proofs.Ytfegbfjeokgjjaa
