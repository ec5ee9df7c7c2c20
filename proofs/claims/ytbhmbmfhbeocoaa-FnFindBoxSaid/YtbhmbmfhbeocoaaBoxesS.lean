/- spec.BoxesValid and the two FindBox at slices that read as lists. Conditions: that the slice reads as the list. -/
import Derived.Test.YtbhmbmfhbeocoaaBoxesV
namespace Go.Proofs.Ytbhmbmfhbeocoaa
open Go.RowKit
set_option linter.unusedVariables false

/-- the first place of a number lies ahead of k iff it stands among the first k -/
theorem ixOf_take (l : List Int) (x : Int) (k : Nat) (hk : k < l.length) (hx : l.getD k 0 = x) : ixOf l x < k ↔ ¬ ixOf (l.take k) x < 0 := by
  induction l generalizing k with
  | nil => simp at hk
  | cons y l ih =>
    cases k with
    | zero =>
      have hy : y = x := by simpa using hx
      simp [ixOf, hy]
    | succ k =>
      have h1 := ih k (by simpa using hk) (by simpa using hx)
      have h2 := ixOf_ge l x
      have h3 := ixOf_ge (l.take k) x
      have hp : 0 ≤ ixOf l x := by
        have hm := ixOf_mem l x
        have hc : l.contains x = true := has_found l x k (by simpa using hk) (by simpa using hx)
        rw [hc] at hm
        simpa using hm
      simp only [List.take_succ_cons, ixOf]
      by_cases h : y = x
      · simp only [if_pos h]; omega
      · simp only [if_neg h]
        split <;> split <;> omega
set_option maxHeartbeats 800000 in
theorem implFindBox_any (A : Option Addr) (n c : Nat) (bs : List Bx) (x : Int) (w : World) (h : IsBoxes w A n c bs) :
    Calls Try.prog 20 #[.slice A n c, .int .i64 x] w fun e w' => e = .returned (.int .i64 (if boxesB bs then ixOf (idsB bs) x else -1)) ∧ Below w.heap.size w w' := by
  have H := Lib.hid h
  clear h
  cases hv : boxesB bs with
  | false =>
    go_enter Try.func20, Try.ntmps20
    go_wp2_with (go_at_call 17; refine (implBoxesValid_any _ _ _ _ _ H.out).mono ?_; rintro e w1 ⟨rfl, hb1⟩; rw [hv])
    go_ret
    exact ⟨rfl, hb1⟩
  | true =>
    go_enter Try.func20, Try.ntmps20
    go_wp2_with (first
      | (go_at_call 17; refine (implBoxesValid_any _ _ _ _ _ H.out).mono ?_; rintro e w1 ⟨rfl, hb1⟩; rw [hv]; have hI := H.out.below hb1)
      | (go_at_call 34; refine (boxAt_any _ _ _ _ _ _ hI).mono ?_; rintro e w2 ⟨rfl, hb2⟩; have hb3 := hb1.trans (hb2.mono hb1.size)))
    go_ret
    exact ⟨rfl, hb3⟩
end Go.Proofs.Ytbhmbmfhbeocoaa
