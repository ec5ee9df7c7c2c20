/- spec.FindBox, the two WeightOf at slices that read as lists. Conditions: that the slices read as the lists. -/
import Derived.Test.YtbhmbmfhbeocoaaBoxesS2
namespace Go.Proofs.Ytbhmbmfhbeocoaa
open Go.RowKit
set_option linter.unusedVariables false

def findV (bs : List Bx) (x : Int) : Int := if boxesB bs then ixOf (idsB bs) x else -1
set_option maxHeartbeats 800000 in
theorem specFindBox_any (A : Option Addr) (n c : Nat) (bs : List Bx) (x : Int) (w : World) (h : IsBoxes w A n c bs) :
    Calls Try.prog 19 #[.slice A n c, .int .i64 x] w fun e w' => e = .returned (.int .i64 (findV bs x)) ∧ Below w.heap.size w w' := by
  have H := Lib.hid h
  clear h
  cases hv : boxesB bs with
  | false =>
    go_enter Try.func19, Try.ntmps19
    go_wp2_with (go_at_call 15; refine (specBoxesValid_any _ _ _ _ _ H.out).mono ?_; rintro e w1 ⟨rfl, hb1⟩; rw [hv])
    go_ret
    exact ⟨by simp [findV, hv], hb1⟩
  | true =>
    go_enter Try.func19, Try.ntmps19
    go_wp2_with (first
      | (go_at_call 15; refine (specBoxesValid_any _ _ _ _ _ H.out).mono ?_; rintro e w1 ⟨rfl, hb1⟩; rw [hv]; have hI := H.out.below hb1)
      | (go_at_call 33; refine (l2Find_any _ _ _ _ _ _ hI).mono ?_; rintro e w2 ⟨rfl, rfl⟩))
    go_ret
    exact ⟨by simp [findV, hv], hb1⟩

/-- the sum of the weights by ids, from a sum on; -1 where an id is not there -/
def wSum (bs : List Bx) : List Int → Int → Int
  | [], s => s
  | x :: l, s => if ixOf (idsB bs) x < 0 then -1 else wSum bs l (IntKind.i64.wrap (s + (bs.getD (ixOf (idsB bs) x).toNat default).wt))
def weightV (bs : List Bx) (ids : List Int) : Int := if boxesB bs then wSum bs ids 0 else -1
theorem wSum_at {bs : List Bx} {ids : List Int} {k : Nat} {s : Int} (hk : k < ids.length) : wSum bs (ids.drop k) s = if ixOf (idsB bs) (ids.getD k 0) < 0 then -1 else wSum bs (ids.drop (k + 1)) (IntKind.i64.wrap (s + (bs.getD (ixOf (idsB bs) (ids.getD k 0)).toNat default).wt)) := by
  rw [List.drop_eq_getElem_cons hk, wSum]
  simp [List.getD, List.getElem?_eq_getElem hk]

set_option maxHeartbeats 800000 in
theorem implWeightOf_any (A : Option Addr) (n c : Nat) (bs : List Bx) (A' : Option Addr) (n' c' : Nat) (ids : List Int) (w : World) (h : IsBoxes w A n c bs) (h' : Ints w A' n' c' ids) :
    Calls Try.prog 23 #[.slice A n c, .slice A' n' c'] w fun e w' => e = .returned (.int .i64 (weightV bs ids)) ∧ Below w.heap.size w w' := by
  have H := Lib.hid h
  have H' := Lib.hid h'
  have Hl' := Lib.hid h'.length
  have hlen' := h'.len
  clear h h'
  cases hv : boxesB bs with
  | false =>
    go_enter Try.func23, Try.ntmps23
    go_wp2_with (go_at_call 17; refine (implBoxesValid_any _ _ _ _ _ H.out).mono ?_; rintro e w1 ⟨rfl, hb1⟩; rw [hv])
    go_ret
    exact ⟨by simp [weightV, hv], hb1⟩
  | true =>
    go_enter Try.func23, Try.ntmps23
    go_wp2_with (go_at_call 17; refine (implBoxesValid_any _ _ _ _ _ H.out).mono ?_; rintro e w1 ⟨rfl, hb1⟩; rw [hv])
    have hs1 := hb1.size
    go_loopw [5, 14] (fun q i wr => ∃ (k : Nat) (t : Int), k ≤ n' ∧ i = .int .i64 k ∧ q = .int .i64 t ∧ wSum bs ids 0 = wSum bs (ids.drop k) t ∧ Below w.heap.size w wr) (fun _ i _ => n' - (intOf i).toNat)
    case atStart => exact ⟨0, 0, by omega, rfl, rfl, rfl, hb1⟩
    case round =>
      obtain ⟨k, t, hk, rfl, rfl, hsum, hbw⟩ := hrel
      have hsw := hbw.size
      by_cases hlt : k < n'
      · have hlt' : (k : Int) < n' := by omega
        have hk0 : (0 : Int) ≤ k := by omega
        obtain ⟨b, off, hA, hb, hc⟩ := H'.out.at_ hlt
        subst hA
        have hc := (hbw.cell (p := ⟨b, off + k, none⟩) hb).trans hc
        rw [wSum_at (by rw [Hl'.out]; exact hlt)] at hsum
        obtain ⟨x, hx⟩ : ∃ x, ids.getD k 0 = x := ⟨_, rfl⟩
        rw [hx] at hc hsum
        have HI := Lib.hid (H.out.below hbw)
        have i1 := ixOf_lt (idsB bs) x
        rw [idsB_len, H.out.length] at i1
        obtain ⟨q, hq⟩ : ∃ q, ixOf (idsB bs) x = q := ⟨_, rfl⟩
        rw [hq] at hsum i1
        have Hq := Lib.hid hq
        clear hq hx
        by_cases hq0 : q < 0
        · rw [if_pos hq0] at hsum
          have Hs := Lib.hid hsum
          clear hsum i1
          go_wp2_with (go_at_call 34; refine (boxAt_any _ _ _ _ _ _ HI.out).mono ?_; rintro e w2 ⟨rfl, hb2⟩; rw [Hq.out]; have hb3 := hbw.trans (hb2.mono hsw))
          go_ret
          exact ⟨by simp [weightV, hv, Hs.out], hb3⟩
        · rw [if_neg hq0] at hsum
          obtain ⟨m, rfl⟩ := Int.eq_ofNat_of_zero_le (show 0 ≤ q by omega)
          have hm : m < n := by omega
          have hm' : (m : Int) < n := by omega
          obtain ⟨b1, off1, hA1, hb1', hc1⟩ := HI.out.at_ hm
          subst hA1
          obtain ⟨_, e1, _⟩ := hc1
          rw [Int.toNat_natCast] at hsum
          obtain ⟨y, hy⟩ : ∃ y, (bs.getD m default).wt = y := ⟨_, rfl⟩
          rw [hy] at hsum e1
          have Hs := Lib.hid hsum
          clear hsum i1 hy
          go_wp2_with (go_at_call 34; refine (boxAt_any _ _ _ _ _ _ HI.out).mono ?_; rintro e w2 ⟨rfl, hb2⟩; rw [Hq.out]; have hb3 := hbw.trans (hb2.mono hsw); have e2 := (hb2.cell (p := ⟨b1, off1 + m * 5 + 1, none⟩) hb1').trans e1)
          exact ⟨⟨k + 1, _, by omega, by go_num, rfl, (by rw [Hs.out, IntWalk.i64_left]), hb3⟩, by simp [intOf]; omega⟩
      · obtain rfl : k = n' := by omega
        have : ids.drop k = [] := List.drop_eq_nil_of_le (by rw [Hl'.out]; omega)
        rw [this, wSum] at hsum
        have Hs := Lib.hid hsum
        clear hsum
        go_wp2_with (fail)
        go_ret
        exact ⟨by simp [weightV, hv, Hs.out], hbw⟩
end Go.Proofs.Ytbhmbmfhbeocoaa
