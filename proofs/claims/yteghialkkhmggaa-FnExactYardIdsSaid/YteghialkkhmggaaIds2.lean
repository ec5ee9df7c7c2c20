/- The sorted list of ids: insertion one by one is the library's sort; it ascends where no id comes twice. The plain law. No condition. -/
import Derived.Test.YteghialkkhmggaaIds
import Derived.Lib.SlKeysI
namespace Go.Proofs.Yteghialkkhmggaa
open Go.RowKit
set_option linter.unusedVariables false

theorem insS_perm (xs : List Int) (n : Int) : (insS xs n).Perm (n :: xs) := by
  induction xs with
  | nil => exact List.Perm.refl _
  | cons x l ih =>
    simp only [insS]
    split
    · exact (ih.cons x).trans (List.Perm.swap n x l)
    · exact List.Perm.refl _
theorem foldl_perm (xs acc : List Int) : (xs.foldl insS acc).Perm (acc ++ xs) := by
  induction xs generalizing acc with
  | nil => simp
  | cons x l ih =>
    rw [List.foldl_cons]
    refine (ih _).trans ?_
    refine ((insS_perm acc x).append_right l).trans ?_
    exact (List.perm_middle (a := x) (l₁ := acc) (l₂ := l)).symm
theorem sortL_perm (xs : List Int) : (sortL xs).Perm xs := foldl_perm xs []
theorem insS_sorted {xs : List Int} (n : Int) (h : xs.Pairwise (· ≤ ·)) : (insS xs n).Pairwise (· ≤ ·) := by
  induction xs with
  | nil => simp [insS]
  | cons x l ih =>
    have h1 := List.pairwise_cons.1 h
    simp only [insS]
    split
    · rename_i hx
      refine List.pairwise_cons.2 ⟨fun y hy => ?_, ih h1.2⟩
      have := (insS_perm l n).mem_iff.1 hy
      rcases List.mem_cons.1 this with rfl | hy
      · omega
      · exact h1.1 y hy
    · rename_i hx
      refine List.pairwise_cons.2 ⟨fun y hy => ?_, h⟩
      rcases List.mem_cons.1 hy with rfl | hy
      · omega
      · have := h1.1 y hy
        omega
theorem foldl_sorted (xs acc : List Int) (h : acc.Pairwise (· ≤ ·)) : (xs.foldl insS acc).Pairwise (· ≤ ·) := by
  induction xs generalizing acc with
  | nil => exact h
  | cons x l ih => exact ih _ (insS_sorted x h)
theorem sortL_sorted (xs : List Int) : (sortL xs).Pairwise (· ≤ ·) := foldl_sorted xs [] List.Pairwise.nil
theorem sortZ_eq (xs : List Int) : xs.mergeSort (fun x y => decide (x ≤ y)) = sortL xs := by
  have tr : ∀ a b c : Int, decide (a ≤ b) = true → decide (b ≤ c) = true → decide (a ≤ c) = true := by
    intro a b c h1 h2
    simp at *
    omega
  have to : ∀ a b : Int, (decide (a ≤ b) || decide (b ≤ a)) = true := by
    intro a b
    simp
    omega
  refine List.Perm.eq_of_pairwise (le := fun a b => decide (a ≤ b) = true) (fun a b _ _ h1 h2 => ?_) (List.pairwise_mergeSort tr to xs) ?_ ((List.mergeSort_perm xs _).trans (sortL_perm xs).symm)
  · simp at h1 h2
    omega
  · exact (sortL_sorted xs).imp (fun h => by simpa using h)
/-- ids that come once ascend -/
theorem sortL_less {xs : List Int} (h : xs.Nodup) (i : Nat) (hi : i + 1 < xs.length) : (sortL xs).getD i 0 < (sortL xs).getD (i + 1) 0 := by
  have hl := sortL_length xs
  have hs := sortL_sorted xs
  have hn : (sortL xs).Nodup := (sortL_perm xs).nodup_iff.2 h
  have e1 : (sortL xs).getD i 0 = (sortL xs)[i]'(by omega) := by simp [List.getD, List.getElem?_eq_getElem (show i < (sortL xs).length by omega)]
  have e2 : (sortL xs).getD (i + 1) 0 = (sortL xs)[i + 1]'(by omega) := by simp [List.getD, List.getElem?_eq_getElem (show i + 1 < (sortL xs).length by omega)]
  have h1 := List.pairwise_iff_getElem.1 hs i (i + 1) (by omega) (by omega) (by omega)
  have h2 := List.pairwise_iff_getElem.1 hn i (i + 1) (by omega) (by omega) (by omega)
  rw [e1, e2]
  omega
theorem sortL_mem {xs : List Int} {i : Nat} (hi : i < xs.length) : (sortL xs).getD i 0 ∈ xs := by
  have hl := sortL_length xs
  have e1 : (sortL xs).getD i 0 = (sortL xs)[i]'(by omega) := by simp [List.getD, List.getElem?_eq_getElem (show i < (sortL xs).length by omega)]
  rw [e1]
  exact (sortL_perm xs).mem_iff.1 (List.getElem_mem _)
theorem ixS_mem {sss : List (List Int)} {x : Int} (h : x ∈ sss.flatten) : 0 ≤ ixS sss x := by
  induction sss with
  | nil => simp at h
  | cons s l ih =>
    simp only [ixS]
    split
    · omega
    · rename_i hs
      have hx : x ∈ l.flatten := by
        rw [List.flatten_cons, List.mem_append] at h
        rcases h with h | h
        · exact absurd (by simpa [hasB] using h) hs
        · exact h
      have := ih hx
      rw [if_neg (by omega)]
      omega
theorem yard_nodup {hi : Int} {sss : List (List Int)} (h : yardB hi sss = true) : sss.flatten.Nodup := by
  simp only [yardB, Bool.and_eq_true, decide_eq_true_eq] at h
  exact h.2
theorem flat_le (b : Nat) : ∀ sss : List (List Int), (∀ k, k < sss.length → (sss.getD k []).length ≤ b) → sss.flatten.length ≤ sss.length * b
  | [], _ => by simp
  | s :: l, h => by
    have h0 := h 0 (by simp)
    have h1 := flat_le b l (fun k hk => by simpa using h (k + 1) (by simpa using hk))
    simp only [List.getD_cons_zero] at h0
    rw [List.flatten_cons, List.length_append, List.length_cons, Nat.add_mul]
    omega
theorem yard_25 {hi : Int} {sss : List (List Int)} (h : yardB hi sss = true) : sss.flatten.length ≤ 25 := by
  obtain ⟨h1, h2⟩ := yard_five h
  have := flat_le 5 sss h2
  omega
end Go.Proofs.Yteghialkkhmggaa
