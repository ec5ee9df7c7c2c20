/- laws.sameInts at slices that read as lists. Conditions: that the slices read as the lists. -/
import Derived.Test.YtfdnikmmfnhmbaaOwn2
namespace Go.Proofs.Ytfdnikmmfnhmbaa
open Go.RowKit
set_option linter.unusedVariables false

set_option maxHeartbeats 1600000 in
theorem sameInts_any (A : Option Addr) (n c : Nat) (xs : List Int) (A' : Option Addr) (n' c' : Nat) (ys : List Int) (w : World) (h : Ints w A n c xs) (h' : Ints w A' n' c' ys) :
    Calls Try.prog 32 #[.slice A n c, .slice A' n' c'] w fun e w' => e = .returned (.bool (eqL xs ys)) ∧ Below w.heap.size w w' := by
  have hlen := h.len
  have hlen' := h'.len
  have Hl := Lib.hid h.length
  have Hl' := Lib.hid h'.length
  have H := Lib.hid h
  have H' := Lib.hid h'
  clear h h'
  by_cases hne : n = n'
  · subst hne
    go_enter Try.func32, Try.ntmps32
    go_wp2_with (fail)
    go_loopw [5] (fun i wr => ∃ k : Nat, k ≤ n ∧ i = .int .i64 k ∧ (∀ j, j < k → xs.getD j 0 = ys.getD j 0) ∧ Below w.heap.size w wr) (fun i _ => n - (intOf i).toNat)
    case atStart => exact ⟨0, by omega, rfl, (fun j hj => absurd hj (by omega)), Below.refl _ _⟩
    case round =>
      obtain ⟨k, hk, rfl, hp, hbw⟩ := hrel
      have Hp := Lib.hid hp
      clear hp
      by_cases hlt : k < n
      · have hlt' : (k : Int) < n := by omega
        have hk0 : (0 : Int) ≤ k := by omega
        obtain ⟨b, off, hA, hb, hc0⟩ := H.out.at_ hlt
        obtain ⟨b', off', hA', hb', hc0'⟩ := H'.out.at_ hlt
        subst hA hA'
        have hc := (hbw.cell (p := ⟨b, off + k, none⟩) hb).trans hc0
        have hc' := (hbw.cell (p := ⟨b', off' + k, none⟩) hb').trans hc0'
        obtain ⟨v, hv⟩ : ∃ v, xs.getD k 0 = v := ⟨_, rfl⟩
        obtain ⟨v', hv'⟩ : ∃ v, ys.getD k 0 = v := ⟨_, rfl⟩
        rw [hv] at hc
        rw [hv'] at hc'
        have Hv := Lib.hid hv
        have Hv' := Lib.hid hv'
        clear hv hv' hc0 hc0' hb hb'
        cases hx : (v != v') with
        | true =>
          have hfin : eqL xs ys = false := by
            cases e : eqL xs ys with
            | false => rfl
            | true =>
              have e' : xs = ys := by simpa [eqL] using e
              have : v = v' := by rw [← Hv.out, ← Hv'.out, e']
              simp [this] at hx
          have Hfin := Lib.hid hfin
          clear hfin
          go_wp2_with (fail)
          go_quiet (fail)
          go_wp2
          go_ret
          exact ⟨ret_bool (by rw [Hfin.out]), (by repeat' (first | with_reducible exact Below.refl _ _ | with_reducible assumption | with_reducible refine bel_step (by with_reducible assumption) ?_ ?_ | with_reducible refine Below.drew ?_ | with_reducible refine below_drewN ?_ _ | with_reducible refine Below.alloc ?_ ?_ _ | with_reducible refine Below.setCell ?_ ?_ _ | (simp; done) | (simp; omega) | omega | with_reducible refine below_le (by with_reducible assumption) ?_))⟩
        | false =>
          have hp1 : ∀ j, j < k + 1 → xs.getD j 0 = ys.getD j 0 := by
            intro j hj
            by_cases e : j < k
            · exact Hp.out j e
            · obtain rfl : j = k := by omega
              rw [Hv.out, Hv'.out]
              simpa using hx
          have Hp1 := Lib.hid hp1
          clear hp1
          go_wp2_with (fail)
          go_quiet (fail)
          go_wp2
          exact ⟨⟨k + 1, by omega, by go_num, Hp1.out, (by repeat' (first | with_reducible exact Below.refl _ _ | with_reducible assumption | with_reducible refine bel_step (by with_reducible assumption) ?_ ?_ | with_reducible refine Below.drew ?_ | with_reducible refine below_drewN ?_ _ | with_reducible refine Below.alloc ?_ ?_ _ | with_reducible refine Below.setCell ?_ ?_ _ | (simp; done) | (simp; omega) | omega | with_reducible refine below_le (by with_reducible assumption) ?_))⟩, by simp [intOf]; omega⟩
      · obtain rfl : k = n := by omega
        have hfin : eqL xs ys = true := by
          have : xs = ys := getD_ext (by rw [Hl.out, Hl'.out]) (fun j hj => Hp.out j (by rw [Hl.out] at hj; exact hj))
          simp [eqL, this]
        have Hfin := Lib.hid hfin
        clear hfin
        go_wp2_with (fail)
        go_ret
        exact ⟨ret_bool (by rw [Hfin.out]), hbw⟩
  · have hne' : ((n : Int) != (n' : Int)) = true := by rw [bne_iff_ne]; omega
    have hfin : eqL xs ys = false := by
      cases e : eqL xs ys with
      | false => rfl
      | true =>
        have e' : xs = ys := by simpa [eqL] using e
        exact absurd (by rw [← Hl.out, ← Hl'.out, e']) hne
    have Hfin := Lib.hid hfin
    clear hfin hne
    go_enter Try.func32, Try.ntmps32
    go_wp2_with (fail)
    go_ret
    exact ⟨ret_bool (by rw [Hfin.out]), (by repeat' (first | with_reducible exact Below.refl _ _ | with_reducible assumption | with_reducible refine bel_step (by with_reducible assumption) ?_ ?_ | with_reducible refine Below.drew ?_ | with_reducible refine below_drewN ?_ _ | with_reducible refine Below.alloc ?_ ?_ _ | with_reducible refine Below.setCell ?_ ?_ _ | (simp; done) | (simp; omega) | omega | with_reducible refine below_le (by with_reducible assumption) ?_))⟩
end Go.Proofs.Ytfdnikmmfnhmbaa
