/- laws.sameInts, laws.hasInt; what the stack laws need in plain Lean. (Printed by wip/genlwstack.py.) -/
import Derived.Test.YteghialkkhmggaaApp2
namespace Go.Proofs.Yteghialkkhmggaa
open Go.RowKit
set_option linter.unusedVariables false

set_option maxHeartbeats 1600000 in
theorem sameInts_any (A : Option Addr) (n c : Nat) (xs : List Int) (A' : Option Addr) (n' c' : Nat) (ys : List Int) (w : World) (h : Ints w A n c xs) (h' : Ints w A' n' c' ys) :
    Calls Try.prog 35 #[.slice A n c, .slice A' n' c'] w fun e w' => e = .returned (.bool (eqL xs ys)) ∧ Below w.heap.size w w' := by
  have hlen := h.len
  have hlen' := h'.len
  have Hl := Lib.hid h.length
  have Hl' := Lib.hid h'.length
  have H := Lib.hid h
  have H' := Lib.hid h'
  clear h h'
  by_cases hne : n = n'
  · subst hne
    go_enter Try.func35, Try.ntmps35
    go_wp2_with (fail)
    go_loopw [5] (fun i wr => ∃ k : Nat, k ≤ n ∧ i = .int .i64 k ∧ (∀ j, j < k → xs.getD j 0 = ys.getD j 0) ∧ Below w.heap.size w wr) (fun i _ => n - (intOf i).toNat)
    case atStart => exact ⟨0, by omega, rfl, (fun j hj => absurd hj (by omega)), Below.refl _ _⟩
    case round =>
      obtain ⟨k, hk, rfl, hp, hbw⟩ := hrel
      have Hp := Lib.hid hp
      clear hp
      by_cases hlt : k < n
      · have hlt' : (k : Int) < n := by omega
        have hk0 : (0 : Int) ≤ k := by omega
        obtain ⟨b, off, hA, hb, hc0⟩ := H.out.at_ hlt
        obtain ⟨b', off', hA', hb', hc0'⟩ := H'.out.at_ hlt
        subst hA hA'
        have hc := (hbw.cell (p := ⟨b, off + k, none⟩) hb).trans hc0
        have hc' := (hbw.cell (p := ⟨b', off' + k, none⟩) hb').trans hc0'
        obtain ⟨v, hv⟩ : ∃ v, xs.getD k 0 = v := ⟨_, rfl⟩
        obtain ⟨v', hv'⟩ : ∃ v, ys.getD k 0 = v := ⟨_, rfl⟩
        rw [hv] at hc
        rw [hv'] at hc'
        have Hv := Lib.hid hv
        have Hv' := Lib.hid hv'
        clear hv hv' hc0 hc0' hb hb'
        cases hx : (v != v') with
        | true =>
          have hfin : eqL xs ys = false := by
            cases e : eqL xs ys with
            | false => rfl
            | true =>
              have e' : xs = ys := by simpa [eqL] using e
              have : v = v' := by rw [← Hv.out, ← Hv'.out, e']
              simp [this] at hx
          have Hfin := Lib.hid hfin
          clear hfin
          go_wp2_with (fail)
          go_quiet (fail)
          go_wp2
          go_ret
          exact ⟨ret_bool (by rw [Hfin.out]), (by repeat' (first | with_reducible exact Below.refl _ _ | with_reducible assumption | with_reducible refine bel_step (by with_reducible assumption) ?_ ?_ | with_reducible refine Below.drew ?_ | with_reducible refine below_drewN ?_ _ | with_reducible refine Below.alloc ?_ ?_ _ | with_reducible refine Below.setCell ?_ ?_ _ | (simp; done) | (simp; omega) | omega | with_reducible refine below_le (by with_reducible assumption) ?_))⟩
        | false =>
          have hp1 : ∀ j, j < k + 1 → xs.getD j 0 = ys.getD j 0 := by
            intro j hj
            by_cases e : j < k
            · exact Hp.out j e
            · obtain rfl : j = k := by omega
              rw [Hv.out, Hv'.out]
              simpa using hx
          have Hp1 := Lib.hid hp1
          clear hp1
          go_wp2_with (fail)
          go_quiet (fail)
          go_wp2
          exact ⟨⟨k + 1, by omega, by go_num, Hp1.out, (by repeat' (first | with_reducible exact Below.refl _ _ | with_reducible assumption | with_reducible refine bel_step (by with_reducible assumption) ?_ ?_ | with_reducible refine Below.drew ?_ | with_reducible refine below_drewN ?_ _ | with_reducible refine Below.alloc ?_ ?_ _ | with_reducible refine Below.setCell ?_ ?_ _ | (simp; done) | (simp; omega) | omega | with_reducible refine below_le (by with_reducible assumption) ?_))⟩, by simp [intOf]; omega⟩
      · obtain rfl : k = n := by omega
        have hfin : eqL xs ys = true := by
          have : xs = ys := getD_ext (by rw [Hl.out, Hl'.out]) (fun j hj => Hp.out j (by rw [Hl.out] at hj; exact hj))
          simp [eqL, this]
        have Hfin := Lib.hid hfin
        clear hfin
        go_wp2_with (fail)
        go_ret
        exact ⟨ret_bool (by rw [Hfin.out]), hbw⟩
  · have hne' : ((n : Int) != (n' : Int)) = true := by rw [bne_iff_ne]; omega
    have hfin : eqL xs ys = false := by
      cases e : eqL xs ys with
      | false => rfl
      | true =>
        have e' : xs = ys := by simpa [eqL] using e
        exact absurd (by rw [← Hl.out, ← Hl'.out, e']) hne
    have Hfin := Lib.hid hfin
    clear hfin hne
    go_enter Try.func35, Try.ntmps35
    go_wp2_with (fail)
    go_ret
    exact ⟨ret_bool (by rw [Hfin.out]), (by repeat' (first | with_reducible exact Below.refl _ _ | with_reducible assumption | with_reducible refine bel_step (by with_reducible assumption) ?_ ?_ | with_reducible refine Below.drew ?_ | with_reducible refine below_drewN ?_ _ | with_reducible refine Below.alloc ?_ ?_ _ | with_reducible refine Below.setCell ?_ ?_ _ | (simp; done) | (simp; omega) | omega | with_reducible refine below_le (by with_reducible assumption) ?_))⟩


set_option maxHeartbeats 400000 in
theorem hasInt_any (A : Option Addr) (n c : Nat) (xs : List Int) (x : Int) (w : World) (h : Ints w A n c xs) :
    Calls Try.prog 33 #[.slice A n c, .int .i64 x] w fun e w' => e = .returned (.bool (hasB xs x)) ∧ w = w' := by
  have hlen := h.len
  have Hl := Lib.hid h.length
  have H := Lib.hid h
  clear h
  go_enter Try.func33, Try.ntmps33
  go_wp2_with (fail)
  go_loop [5] (fun c => ∃ k : Nat, k ≤ n ∧ c = .int .i64 k ∧ NoX xs x k) (fun c => n - (intOf c).toNat)
  case atStart => exact ⟨0, by omega, rfl, NoX.zero _ _⟩
  case round =>
    obtain ⟨k, hk, rfl, hno⟩ := hrel
    have Hno := Lib.hid hno
    clear hno
    by_cases hlt : k < n
    · have hlt' : (k : Int) < n := by omega
      obtain ⟨b, off, hA, hb, hc⟩ := H.out.at_ hlt
      subst hA
      obtain ⟨v, hv⟩ : ∃ v, xs.getD k 0 = v := ⟨_, rfl⟩
      rw [hv] at hc
      have Hv := Lib.hid hv
      clear hv
      cases hx : (v == x) with
      | true =>
        have hfin := has_found xs x k (by rw [Hl.out]; exact hlt) (by rw [Hv.out]; exact beq_iff_eq.1 hx)
        have Hfin := Lib.hid hfin
        clear hfin
        go_wp2_with (fail)
        go_ret
        exact ⟨ret_bool (by rw [Hfin.out]), rfl⟩
      | false =>
        have hn1 := Hno.out.succ (by rw [Hv.out]; exact beq_eq_false_iff_ne.1 hx)
        have Hn1 := Lib.hid hn1
        clear hn1
        go_wp2_with (fail)
        exact ⟨⟨k + 1, by omega, by go_num, Hn1.out⟩, by simp [intOf]; omega⟩
    · obtain rfl : k = n := by omega
      have hfin := has_none xs x (by rw [Hl.out]; exact Hno.out)
      have Hfin := Lib.hid hfin
      clear hfin
      go_wp2_with (fail)
      go_ret
      exact ⟨ret_bool (by rw [Hfin.out]), rfl⟩



theorem okB_iff (xs : List Int) (k : Nat) : okB xs k = true ↔ ∀ i, i < k → inR (xs.getD i 0) 1 999 = true ∧ hasB (xs.take i) (xs.getD i 0) = false := by
  simp [okB, List.all_eq_true]
theorem getD_take {xs : List Int} {m i : Nat} (h : i < m) : (xs.take m).getD i 0 = xs.getD i 0 := by simp [List.getD, h]
theorem stackB_take {xs : List Int} {high : Int} (h : stackB xs high = true) (m : Nat) : stackB (xs.take m) high = true := by
  simp only [stackB, Bool.and_eq_true, decide_eq_true_eq] at h ⊢
  refine ⟨⟨?_, h.1.2⟩, by have := List.length_take_le m xs; have := h.2; have h3 := List.length_take_le' m xs; omega⟩
  have h1 := (okB_iff _ _).1 h.1.1
  refine (okB_iff _ _).2 fun i hi => ?_
  have hi2 : i < m ∧ i < xs.length := by rw [List.length_take] at hi; omega
  rw [getD_take hi2.1, List.take_take, Nat.min_eq_left (by omega)]
  exact h1 i hi2.2
theorem getD_end (xs : List Int) (x : Int) : (xs ++ [x]).getD xs.length 0 = x := by simp [List.getD]
theorem stackB_dup {xs : List Int} {high x : Int} (h : hasB xs x = true) : stackB (xs ++ [x]) high = false := by
  cases e : stackB (xs ++ [x]) high with
  | false => rfl
  | true =>
    simp only [stackB, Bool.and_eq_true, decide_eq_true_eq] at e
    have h1 := ((okB_iff _ _).1 e.1.1 xs.length (by simp)).2
    rw [getD_end, List.take_left' rfl, h] at h1
    cases h1
theorem stackB_new {xs : List Int} {high x : Int} (h : stackB (xs ++ [x]) high = true) : hasB xs x = false := by
  cases e : hasB xs x with
  | false => rfl
  | true => rw [stackB_dup e] at h; cases h
theorem stackB_range {xs : List Int} {high : Int} (h : stackB xs high = true) {i : Nat} (hi : i < xs.length) : 1 ≤ xs.getD i 0 ∧ xs.getD i 0 ≤ 999 := by
  simp only [stackB, Bool.and_eq_true, decide_eq_true_eq] at h
  have h1 := ((okB_iff _ _).1 h.1.1 i hi).1
  simpa [inR] using h1
theorem stackB_nil : stackB [] 0 = false := by simp [stackB, inR]
theorem last_split {xs : List Int} (h : xs.length ≠ 0) : xs.take (xs.length - 1) ++ [xs.getD (xs.length - 1) 0] = xs := by
  apply getD_ext
  · simp; omega
  · intro j hj
    simp at hj
    by_cases e : j < xs.length - 1
    · simp [List.getD, e, List.getElem?_append]
      rw [List.getElem?_eq_getElem (show j < xs.length by omega)]
      rfl
    · obtain rfl : j = xs.length - 1 := by omega
      simp [List.getD]
theorem has_last {xs : List Int} (h : xs.length ≠ 0) : hasB xs (xs.getD (xs.length - 1) 0) = true := has_found xs _ (xs.length - 1) (by omega) rfl
theorem has_not {xs : List Int} {x : Int} (h : hasB xs x = false) (j : Nat) (hj : j < xs.length) : xs.getD j 0 ≠ x := by
  intro e
  rw [has_found xs x j hj e] at h
  cases h
theorem stackB_distinct {xs : List Int} {high : Int} (h : stackB xs high = true) {i j : Nat} (hij : i < j) (hj : j < xs.length) : xs.getD i 0 ≠ xs.getD j 0 := by
  simp only [stackB, Bool.and_eq_true, decide_eq_true_eq] at h
  have h1 := ((okB_iff _ _).1 h.1.1 j hj).2
  have := has_not h1 i (by rw [List.length_take]; omega)
  rwa [getD_take hij] at this
end Go.Proofs.Yteghialkkhmggaa
