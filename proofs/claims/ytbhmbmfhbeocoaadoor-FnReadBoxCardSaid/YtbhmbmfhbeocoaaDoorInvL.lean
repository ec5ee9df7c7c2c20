/- A region that draws its order, walked by an invariant over what has come up: each operation is shown once. Conditions: those in each statement. -/
import Derived.Test.YtbhmbmfhbeocoaaDoorKit
namespace Go.Proofs.YtbhmbmfhbeocoaaDoor
open Go.RowKit
set_option linter.unusedVariables false

theorem count_set_true : ∀ (l : List Bool) (i : Nat), l[i]? = some false → (l.set i true).count false + 1 = l.count false
  | [], i, h => by simp at h
  | b :: l, 0, h => by
    have hb : b = false := by simpa using h
    subst hb
    simp
  | b :: l, i + 1, h => by
    have h' : l[i]? = some false := by simpa using h
    have ih := count_set_true l i h'
    simp only [List.set_cons_succ, List.count_cons]
    omega

/-- an invariant over the listed operations: each operation that may come up keeps it -/
theorem wpAny_inv {P : Program} {md : Region.Mode} {ops : Array Oper} {Q : Exit → Act → World → Prop} (I : Array Bool → Act → World → Prop)
    (hd : ∀ listed a w, I listed a w → Region.ready md ops listed = [] → Q .normal a w)
    (hs : ∀ listed a w i, I listed a w → i ∈ Region.ready md ops listed → wpOp P ops Q i (fun a' w' => I (listed.setIfInBounds i true) a' w') a w) :
    ∀ (fuel : Nat) (listed : Array Bool) (a : Act) (w : World), listed.toList.count false ≤ fuel → I listed a w → wpAny P md ops Q fuel listed a w := by
  have hlook : ∀ (listed : Array Bool) i, i ∈ Region.ready md ops listed → listed.toList[i]? = some false := by
    intro listed i hi
    have h := (mem_ready.1 hi).1
    rcases Nat.lt_or_ge i listed.size with h' | h'
    · simp [h'] at h
      simp [h', h]
    · simp [Array.getElem?_eq_none h'] at h
  intro fuel
  induction fuel with
  | zero =>
    intro listed a w hc hI
    have hr : Region.ready md ops listed = [] := by
      cases hr : Region.ready md ops listed with
      | nil => rfl
      | cons x xs =>
        have := hlook listed x (by rw [hr]; simp)
        have h2 : false ∈ listed.toList := List.mem_of_getElem? this
        have := List.count_pos_iff.2 h2
        omega
    exact ⟨hr, hd _ _ _ hI hr⟩
  | succ fuel ih =>
    intro listed a w hc hI
    refine ⟨fun hr => hd _ _ _ hI hr, fun i hi => wpOp_mono (fun a' w' h' => ih _ a' w' ?_ h') (hs _ _ _ i hI hi)⟩
    have := count_set_true listed.toList i (hlook listed i hi)
    rw [Array.toList_setIfInBounds]
    omega

end Go.Proofs.YtbhmbmfhbeocoaaDoor
