/- Rows of integers that a call makes itself, second part: eqIntS, markIntS, heldIntS. Conditions: those in each statement. -/
import Derived.Test.YteghialkkhmggaaOwn
namespace Go.Proofs.Yteghialkkhmggaa
open Go.RowKit
set_option linter.unusedVariables false

def eqL (xs ys : List Int) : Bool := decide (xs = ys)
theorem eqL_self (xs : List Int) : eqL xs xs = true := by simp [eqL]
def ramp (k : Int) (n : Nat) : List Int := (List.range n).map fun (i : Nat) => k + (i : Int)
theorem ramp_length (k : Int) (n : Nat) : (ramp k n).length = n := by simp [ramp]
theorem ramp_get (k : Int) (n j : Nat) (h : j < n) : (ramp k n).getD j 0 = k + (j : Int) := by simp [ramp, List.getD, h]

set_option maxHeartbeats 1600000 in
theorem eqIntS_any (A : Option Addr) (n c : Nat) (xs : List Int) (A' : Option Addr) (n' c' : Nat) (ys : List Int) (w : World) (h : Ints w A n c xs) (h' : Ints w A' n' c' ys) :
    Calls Try.prog 21 #[.slice A n c, .slice A' n' c'] w fun e w' => e = .returned (.bool (eqL xs ys)) ∧ Below w.heap.size w w' := by
  have hlen := h.len
  have hlen' := h'.len
  have Hl := Lib.hid h.length
  have Hl' := Lib.hid h'.length
  have H := Lib.hid h
  have H' := Lib.hid h'
  clear h h'
  by_cases hne : n = n'
  · subst hne
    go_enter Try.func21, Try.ntmps21
    go_wp2_with (fail)
    go_loopw [5] (fun i wr => ∃ k : Nat, k ≤ n ∧ i = .int .i64 k ∧ (∀ j, j < k → xs.getD j 0 = ys.getD j 0) ∧ Below w.heap.size w wr) (fun i _ => n - (intOf i).toNat)
    case atStart => exact ⟨0, by omega, rfl, (fun j hj => absurd hj (by omega)), Below.refl _ _⟩
    case round =>
      obtain ⟨k, hk, rfl, hp, hbw⟩ := hrel
      have Hp := Lib.hid hp
      clear hp
      by_cases hlt : k < n
      · have hlt' : (k : Int) < n := by omega
        have hk0 : (0 : Int) ≤ k := by omega
        obtain ⟨b, off, hA, hb, hc0⟩ := H.out.at_ hlt
        obtain ⟨b', off', hA', hb', hc0'⟩ := H'.out.at_ hlt
        subst hA hA'
        have hc := (hbw.cell (p := ⟨b, off + k, none⟩) hb).trans hc0
        have hc' := (hbw.cell (p := ⟨b', off' + k, none⟩) hb').trans hc0'
        obtain ⟨v, hv⟩ : ∃ v, xs.getD k 0 = v := ⟨_, rfl⟩
        obtain ⟨v', hv'⟩ : ∃ v, ys.getD k 0 = v := ⟨_, rfl⟩
        rw [hv] at hc
        rw [hv'] at hc'
        have Hv := Lib.hid hv
        have Hv' := Lib.hid hv'
        clear hv hv' hc0 hc0' hb hb'
        cases hx : (v != v') with
        | true =>
          have hfin : eqL xs ys = false := by
            cases e : eqL xs ys with
            | false => rfl
            | true =>
              have e' : xs = ys := by simpa [eqL] using e
              have : v = v' := by rw [← Hv.out, ← Hv'.out, e']
              simp [this] at hx
          have Hfin := Lib.hid hfin
          clear hfin
          go_wp2_with (fail)
          go_quiet (fail)
          go_wp2
          go_ret
          exact ⟨ret_bool (by rw [Hfin.out]), (by repeat' (first | with_reducible exact Below.refl _ _ | with_reducible assumption | with_reducible refine bel_step (by with_reducible assumption) ?_ ?_ | with_reducible refine Below.drew ?_ | with_reducible refine below_drewN ?_ _ | with_reducible refine Below.alloc ?_ ?_ _ | with_reducible refine Below.setCell ?_ ?_ _ | (simp; done) | (simp; omega) | omega | with_reducible refine below_le (by with_reducible assumption) ?_))⟩
        | false =>
          have hp1 : ∀ j, j < k + 1 → xs.getD j 0 = ys.getD j 0 := by
            intro j hj
            by_cases e : j < k
            · exact Hp.out j e
            · obtain rfl : j = k := by omega
              rw [Hv.out, Hv'.out]
              simpa using hx
          have Hp1 := Lib.hid hp1
          clear hp1
          go_wp2_with (fail)
          go_quiet (fail)
          go_wp2
          exact ⟨⟨k + 1, by omega, by go_num, Hp1.out, (by repeat' (first | with_reducible exact Below.refl _ _ | with_reducible assumption | with_reducible refine bel_step (by with_reducible assumption) ?_ ?_ | with_reducible refine Below.drew ?_ | with_reducible refine below_drewN ?_ _ | with_reducible refine Below.alloc ?_ ?_ _ | with_reducible refine Below.setCell ?_ ?_ _ | (simp; done) | (simp; omega) | omega | with_reducible refine below_le (by with_reducible assumption) ?_))⟩, by simp [intOf]; omega⟩
      · obtain rfl : k = n := by omega
        have hfin : eqL xs ys = true := by
          have : xs = ys := getD_ext (by rw [Hl.out, Hl'.out]) (fun j hj => Hp.out j (by rw [Hl.out] at hj; exact hj))
          simp [eqL, this]
        have Hfin := Lib.hid hfin
        clear hfin
        go_wp2_with (fail)
        go_ret
        exact ⟨ret_bool (by rw [Hfin.out]), hbw⟩
  · have hne' : ((n : Int) != (n' : Int)) = true := by rw [bne_iff_ne]; omega
    have hfin : eqL xs ys = false := by
      cases e : eqL xs ys with
      | false => rfl
      | true =>
        have e' : xs = ys := by simpa [eqL] using e
        exact absurd (by rw [← Hl.out, ← Hl'.out, e']) hne
    have Hfin := Lib.hid hfin
    clear hfin hne
    go_enter Try.func21, Try.ntmps21
    go_wp2_with (fail)
    go_ret
    exact ⟨ret_bool (by rw [Hfin.out]), (by repeat' (first | with_reducible exact Below.refl _ _ | with_reducible assumption | with_reducible refine bel_step (by with_reducible assumption) ?_ ?_ | with_reducible refine Below.drew ?_ | with_reducible refine below_drewN ?_ _ | with_reducible refine Below.alloc ?_ ?_ _ | with_reducible refine Below.setCell ?_ ?_ _ | (simp; done) | (simp; omega) | omega | with_reducible refine below_le (by with_reducible assumption) ?_))⟩
theorem grown_setCell {a w : World} {g : Nat} (h : a.grownBy w (some g)) (k : Nat) (v : Value) : a.grownBy (w.setCell ⟨g, k, none⟩ v) (some g) :=
  ⟨h.os, h.tape, h.output, by simpa [World.setCell] using h.size, fun i hi hne => (Below.heap_setCell w ⟨g, k, none⟩ v i (fun e => hne (by rw [e]))).trans (h.block i hi hne)⟩

set_option maxHeartbeats 800000 in
theorem markIntS_any (g n c : Nat) (xs : List Int) (k : Int) (w : World) (h : OwnAt w g n c xs) (hk0 : 0 ≤ k) (hk : k ≤ 10000000000000) (hn : n ≤ 1000000000000) :
    Calls Try.prog 23 #[.slice (some ⟨g, 0, none⟩) n c, .int .i64 k] w fun e w' => e = .returned (.int .i64 (k + n)) ∧ OwnAt w' g n c (ramp k n) ∧ w.grownBy w' (some g) := by
  have hlen := h.ints.len
  have H := Lib.hid h
  clear h
  go_enter Try.func23, Try.ntmps23
  go_wp2_with (fail)
  go_loopw [1, 5] (fun q i wr => ∃ (j : Nat) (ys : List Int), j ≤ n ∧ i = .int .i64 j ∧ q = .int .i64 (k + j) ∧ OwnAt wr g n c ys ∧ (∀ m, m < j → ys.getD m 0 = k + (m : Int)) ∧ w.grownBy wr (some g)) (fun _ i _ => n - (intOf i).toNat)
  case atStart => exact ⟨0, xs, by omega, rfl, by simp, H.out, (fun j hj => absurd hj (by omega)), World.grownBy.refl w _⟩
  case round =>
    obtain ⟨j, ys, hj, rfl, rfl, ho, hp, hgr⟩ := hrel
    by_cases hlt : j < n
    · have hlt' : (j : Int) < n := by omega
      have hjn : (j : Int) ≤ 1000000000000 := by omega
      have hjc : (j : Int) < c := by obtain ⟨cs, _, _, h3, _⟩ := ho; omega
      have hgc := ho.cell hlt
      have hgf := ho.free j
      have hn1 := ho.set_ j (k + j)
      have hn2 : ∀ m, m < j + 1 → (ys.set j (k + (j : Int))).getD m 0 = k + (m : Int) := by
        intro m hm
        by_cases hmj : m = j
        · subst hmj
          have hl := ho.length
          simp [List.getD, hl, hlt]
        · have := hp m (by omega)
          have hkj : ¬ j = m := fun e => hmj e.symm
          rw [← this]
          simp [List.getD, hkj]
      have hn3 := grown_setCell hgr j (.int .i64 (k + j))
      obtain ⟨u, hu⟩ : ∃ u, ys.getD j 0 = u := ⟨_, rfl⟩
      rw [hu] at hgc
      have Hn1 := Lib.hid hn1
      have Hn2 := Lib.hid hn2
      have Hn3 := Lib.hid hn3
      clear hn1 hn2 hn3 ho hp hgr hu
      go_wp2_with (fail)
      exact ⟨⟨j + 1, _, by omega, by go_num, by go_num, Hn1.out, Hn2.out, Hn3.out⟩, by simp [intOf]; omega⟩
    · obtain rfl : j = n := by omega
      have hfin : ys = ramp k j := getD_ext (by rw [ho.length, ramp_length]) (fun m hm => by rw [ho.length] at hm; rw [hp m hm, ramp_get _ _ _ hm])
      subst hfin
      have Ho := Lib.hid ho
      have Hg := Lib.hid hgr
      clear ho hp hgr
      go_wp2_with (fail)
      go_ret
      exact ⟨rfl, Ho.out, Hg.out⟩

set_option maxHeartbeats 400000 in
theorem markIntS_none (A : Option Addr) (c : Nat) (k : Int) (w : World) :
    Calls Try.prog 23 #[.slice A 0 c, .int .i64 k] w fun e w' => e = .returned (.int .i64 k) ∧ w = w' := by
  go_enter Try.func23, Try.ntmps23
  go_wp2_with (fail)
  go_loop [1, 5] (fun q i => i = .int .i64 0 ∧ q = .int .i64 k) (fun _ _ => 0)
  case atStart => exact ⟨rfl, rfl⟩
  case round =>
    obtain ⟨rfl, rfl⟩ := hrel
    go_wp2_with (fail)
    go_ret
    exact ⟨rfl, rfl⟩

set_option maxHeartbeats 800000 in
theorem heldIntS_any (A : Option Addr) (n c : Nat) (k : Int) (w : World) (h : Ints w A n c (ramp k n)) (hk0 : 0 ≤ k) (hk : k ≤ 1000000000000) (hn : n ≤ 1000000000000) :
    Calls Try.prog 24 #[.slice A n c, .int .i64 k] w fun e w' => e = .returned (.int .i64 (k + n)) ∧ w = w' := by
  have hlen := h.len
  have H := Lib.hid h
  clear h
  go_enter Try.func24, Try.ntmps24
  go_wp2_with (fail)
  go_loop [1, 5] (fun q i => ∃ j : Nat, j ≤ n ∧ i = .int .i64 j ∧ q = .int .i64 (k + j)) (fun _ i => n - (intOf i).toNat)
  case atStart => exact ⟨0, by omega, rfl, by simp⟩
  case round =>
    obtain ⟨j, hj, rfl, rfl⟩ := hrel
    by_cases hlt : j < n
    · have hlt' : (j : Int) < n := by omega
      have hjn : (j : Int) ≤ 1000000000000 := by omega
      obtain ⟨b, off, hA, hb, hc⟩ := H.out.at_ hlt
      subst hA
      rw [ramp_get _ _ _ hlt] at hc
      go_wp2_with (fail)
      exact ⟨⟨j + 1, by omega, by go_num, by go_num⟩, by simp [intOf]; omega⟩
    · obtain rfl : j = n := by omega
      go_wp2_with (fail)
      go_ret
      exact ⟨rfl, rfl⟩
end Go.Proofs.Yteghialkkhmggaa
