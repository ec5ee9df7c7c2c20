/- spec.StackPut, spec.StackTake at slices that read as lists; marking a row of the call's own. Conditions: those in each statement. -/
import Derived.Test.YteghialkkhmggaaApp
import Derived.RegionTactic
namespace Go.Proofs.Yteghialkkhmggaa
open Go.RowKit
set_option linter.unusedVariables false

theorem empty_own (w : World) : OwnAt (w.alloc (.cells #[] 3)) w.heap.size 0 0 [] := ⟨#[], heap_alloc_new w _, rfl, Nat.le_refl _, Nat.zero_le _, rfl, fun j hj => absurd hj (by omega)⟩
theorem empty_row {w : World} {B : Nat} (hB : B ≤ w.heap.size) : RowI (w.alloc (.cells #[] 3)) B (.slice (some ⟨w.heap.size, 0, none⟩) 0 0) 0 [] := RowI.of_own (.inr ⟨_, rfl, hB, empty_own w⟩)
theorem below_row {w w1 : World} {B n : Nat} {v : Value} {xs : List Int} (h : RowI w B v n xs) (hb : Below w.heap.size w w1) : RowI w1 B v n xs := by
  obtain ⟨A, c, rfl, ho⟩ := h.own
  exact RowI.of_own (ho.below hb)

/-- the append of wpList_append_ints at a step of a region that draws -/
theorem step_append_ints {ops : Array Oper} {o : Oper} {a : Act} {w : World} {K : Act → World → Prop} {Q : Exit → Act → World → Prop} {E : Prop} (hgd : o.guard = none) (s x : Operand)
    (ho : o.op = .call { callee := .builtin .append, args := #[s, x], argTypes := #[33, 33] })
    (B : Nat) (v : Value) (n : Nat) (xs : List Int) (hs : a.eval s = v) (hown : RowI w B v n xs)
    (ad : Addr) (m c : Nat) (ys : List Int) (hx : a.eval x = .slice (some ad) m c) (hr : Ints w (some ad) m c ys) (hnm : n + m ≤ 1000000000) (hB : B ≤ w.heap.size)
    (h : ∀ v' w', RowI w' B v' (n + m) (xs ++ ys) → w.grownBy w' v.ownBlock → K (a.put o.dst v') w') : if Region.wanted o (yielded ops a.tmps) = true then Oper.wp Try.prog o a w K Q else E := by
  have hw : Region.wanted o (yielded ops a.tmps) = true := by simp [Region.wanted, hgd]
  rw [if_pos hw]
  obtain ⟨i0, hi, hz0, hz1, hz2⟩ := info_parts int_info
  refine wp_append_own w s x 33 ho B 3 i0 (.int .i64 0) 1 8 Try.underlying33 hi hz0 hz1 hz2 rfl (by omega) v n (cellsI xs) hs hown ad m c (cellsI ys) hx (by simp [cellsI, hr.length]) ?_ (cellsI_one ys) (by unfold maxLen; omega) (by omega) hB ?_
  · intro j u hu
    have hj : j < m := by
      have := (List.getElem?_eq_some_iff.1 hu).1
      simpa [cellsI, hr.length] using this
    obtain ⟨b, off, e, _, hc⟩ := hr.at_ hj
    injection e with e
    subst e
    have ea : (⟨b, off, none⟩ : Addr).add j = ⟨b, off + j, none⟩ := by
      unfold Addr.add
      by_cases h0 : j = 0
      · subst h0; simp
      · simp [h0]
    rw [ea, hc, ← hu]
    simp [cellsI, List.getElem?_map, List.getD, List.getElem?_eq_getElem (show j < ys.length by rw [hr.length]; exact hj)]
  · intro v' w' h1 h2 _
    exact h v' w' (by rw [RowI, cellsI_append]; exact h1) h2



/-- marking a row of the call's own: the marks stand in it, and no other block has turned -/
theorem markOwn_any (B : Nat) (A : Option Addr) (n c : Nat) (xs : List Int) (k : Int) (w : World) (h : Own w B A n c xs) (hk0 : 0 ≤ k) (hk : k ≤ 1000000000000) (hn : n ≤ 1000000000000) :
    Calls Try.prog 23 #[.slice A n c, .int .i64 k] w fun e w' => e = .returned (.int .i64 (k + n)) ∧ Own w' B A n c (ramp k n) ∧ w.grownBy w' (Value.slice A n c).ownBlock ∧ (B ≤ w.heap.size → Below B w w') := by
  rcases h with ⟨rfl, rfl, rfl, rfl⟩ | ⟨g, rfl, hg, ho⟩
  · refine (markIntS_none none 0 k w).mono ?_
    rintro e w' ⟨rfl, rfl⟩
    exact ⟨by simp, .inl ⟨rfl, rfl, rfl, rfl⟩, World.grownBy.refl w _, fun _ => Below.refl _ _⟩
  · refine (markIntS_any g n c xs k w ho hk0 (by omega) hn).mono ?_
    rintro e w' ⟨rfl, h1, h2⟩
    exact ⟨rfl, .inr ⟨g, rfl, hg, h1⟩, h2, fun hB => ⟨h2.os, h2.tape, h2.output, h2.size, fun i hi => h2.block i (by omega) (fun e => by injection e with e; omega)⟩⟩

/-- a row above B is not touched by what turns a block below B alone -/
theorem Own.kept {w w' : World} {B n c n' c' : Nat} {A A' : Option Addr} {xs ys : List Int} (h : Own w B A n c xs) (hg : w.grownBy w' (Value.slice A' n' c').ownBlock) (B' : Nat) (h' : ∀ g, (Value.slice A' n' c').ownBlock = some g → g < B) : Own w' B A n c xs := by
  refine h.grown hg (fun g e e2 => ?_)
  rcases h with ⟨rfl, _⟩ | ⟨g1, rfl, h1, _⟩
  · cases e
  · injection e with e
    injection e with e
    subst e
    have := h' _ e2.symm
    omega
end Go.Proofs.Yteghialkkhmggaa
