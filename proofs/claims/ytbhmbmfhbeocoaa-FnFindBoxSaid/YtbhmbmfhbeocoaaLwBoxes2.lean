/- The walk of the law FnFindBox. Conditions: that the code reads as bytes. -/
import Derived.Test.YtbhmbmfhbeocoaaLwBoxes1
namespace Go.Proofs.Ytbhmbmfhbeocoaa
open Go.RowKit
set_option linter.unusedVariables false

def DrawBsI (w : World) (e : Ending) (w' : World) : Prop :=
  ∃ A n c bs, ∃ x : Int, e = .returned (.tuple #[.slice A n c, .int .i64 x]) ∧ IsBoxes w' A n c bs ∧ n ≤ 12 ∧ Below w.heap.size w w'

set_option maxHeartbeats 800000 in
theorem drawFindBox_any (A : Option Addr) (n c : Nat) (zs : List Int) (w : World) (h : IsRow .u8 w A n c zs) :
    Calls Try.prog 28 #[.slice A n c] w (DrawBsI w) := by
  have H := Lib.hid h
  clear h
  go_enter Try.func28, Try.ntmps28
  go_wp2_with (fail)
  refine (l20Open_any _ _ _ _ _ H.out).mono ?_
  rintro e w1 ⟨g, rfl, hr1, hb1⟩
  have hge := hr1.ge
  have hs1 := hb1.size
  have hl1 := hr1.lt
  go_wp2_with (fail)
  refine (l20Boxes_any _ _ _ _ _ _ hr1 (by omega) (by omega) (by omega) (by omega)).mono ?_
  rintro e w3 ⟨A1, n1, c1, xs, rfl, ho, hn, hr3, hg3⟩
  have hb3 := below_grown_step hg3 hb1 hge hs1
  have hs3 := hb3.size
  clear hg3 hb1 hr1
  go_wp2_with (fail)
  refine (pick_any _ _ _ _ _ hr3 (by omega)).mono ?_
  rintro e w4 ⟨x4, rfl, hx4, hy4, hr4, hg4⟩
  have ho4 := ho.pick hg4 hl1
  have hb4 := below_grown_step hg4 hb3 hge hs3
  clear hg4 hb3 hr3
  go_wp2_with (fail)
  go_ret2
  exact ⟨A1, n1, c1, xs, _, rfl, ho4.boxes, hn, hb4⟩

set_option maxHeartbeats 3200000 in
theorem fnFindBox_walk (A : Option Addr) (n c : Nat) (zs : List Int) (w : World) (h : IsRow .u8 w A n c zs) :
    Calls Try.prog 9 #[.slice A n c] w fun e w' => e = .returned (.bool true) ∧ Below w.heap.size w w' := by
  by_cases hn : 1048576 < n
  · have hn' : (1048576 : Int) < n := by omega
    clear h
    go_enter Try.func9, Try.ntmps9
    go_wp2_with (fail)
    go_ret
    exact ⟨rfl, (by repeat' (first | with_reducible exact Below.refl _ _ | with_reducible assumption | with_reducible refine bel_step (by with_reducible assumption) ?_ ?_ | with_reducible refine Below.drew ?_ | with_reducible refine below_drewN ?_ _ | with_reducible refine Below.alloc ?_ ?_ _ | with_reducible refine Below.setCell ?_ ?_ _ | (simp; done) | (simp; omega) | omega | with_reducible refine below_le (by with_reducible assumption) ?_))⟩
  · have hn' : (n : Int) ≤ 1048576 := by omega
    have H := Lib.hid h
    clear h hn
    go_enter Try.func9, Try.ntmps9
    go_wp2_with (fail)
    refine (drawFindBox_any _ _ _ _ _ H.out).mono ?_
    rintro e w1 ⟨A1, n1, c1, bs, x, rfl, hI, hn1, hb1⟩
    have hs1 := hb1.size
    have hl := hI.length
    go_wp2_with (fail)
    refine (implFindBox_any _ _ _ _ _ _ hI).mono ?_
    rintro e w2 ⟨rfl, hb2⟩
    rw [show (if boxesB bs then ixOf (idsB bs) x else -1) = findV bs x from rfl]
    have hb3 := hb1.trans (hb2.mono hs1)
    have hs3 := hb3.size
    have hI2 := hI.below hb2
    obtain ⟨q, hq⟩ : ∃ q, findV bs x = q := ⟨_, rfl⟩
    rw [hq]
    go_wp2_with (fail)
    refine (specFindBox_any _ _ _ _ _ _ hI2).mono ?_
    rintro e w4 ⟨rfl, hb4⟩
    rw [hq]
    have hb5 := hb3.trans (hb4.mono hs3)
    have hs5 := hb5.size
    have hI4 := hI2.below hb4
    clear hI hI2 hb1 hb2 hb3 hb4 hs1 hs3
    cases hs : boxesB bs with
    | false =>
      obtain rfl : q = -1 := by rw [← hq, findV, hs]; rfl
      go_wp2_with (first
        | (go_at_call 15; refine (specBoxesValid_any _ _ _ _ _ hI4).mono ?_; rintro e w6 ⟨rfl, hb6⟩; rw [hs]; have hb7 := hb5.trans (hb6.mono hs5))
        | (go_at_call 26; refine (alive_any _).mono ?_; rintro e w' ⟨rfl, rfl⟩))
      go_ret
      exact ⟨rfl, hb7⟩
    | true =>
      go_wp2_with (go_at_call 15; refine (specBoxesValid_any _ _ _ _ _ hI4).mono ?_; rintro e w6 ⟨rfl, hb6⟩; rw [hs]; have hb7 := hb5.trans (hb6.mono hs5); have hI6 := hI4.below hb6)
      have hs7 := hb7.size
      have hfl := findV_lt bs x
      have hfg := findV_ge bs x
      rw [hq] at hfl hfg
      have Hl := Lib.hid hl
      have Hq := Lib.hid hq
      have HI6 := Lib.hid hI6
      rw [hl] at hfl
      clear hI4 hI6 hb5 hb6 hs5 hl hq
      go_loopw [6] (fun i wr => ∃ k : Nat, k ≤ n1 ∧ i = .int .i64 k ∧ IsBoxes wr A1 n1 c1 bs ∧ Below w.heap.size w wr) (fun i _ => n1 - (intOf i).toNat)
      case atStart => exact ⟨0, by omega, rfl, HI6.out, hb7⟩
      case round =>
        obtain ⟨k, hk, rfl, hIr, hbr⟩ := hrel
        have hsr := hbr.size
        by_cases hlt : k < n1
        · have hlt' : (k : Int) < n1 := by omega
          have hk0 : (0 : Int) ≤ k := by omega
          obtain ⟨b, off, hA, hb, hc⟩ := hIr.at_ hlt
          subst hA
          have hat := findV_at hs (show k < bs.length by rw [Hl.out]; exact hlt)
          obtain ⟨y, hy⟩ : ∃ y, bs.getD k default = y := ⟨_, rfl⟩
          obtain ⟨d0, _⟩ := hc
          rw [hy] at d0 hat
          have HIr := Lib.hid hIr
          clear hIr
          by_cases hq0 : q < 0
          · have hnone := findV_none hs (by rw [Hq.out]; exact hq0) (show k < bs.length by rw [Hl.out]; exact hlt)
            rw [hy] at hnone
            clear hy
            go_wp2_with (go_at_call 20; refine (implFindBox_any _ _ _ _ _ _ HIr.out).mono ?_; rintro e v1 ⟨rfl, hv1⟩; rw [show (if boxesB bs then ixOf (idsB bs) y.id else -1) = (k : Int) from hat]; have hIv := HIr.out.below hv1; have hbv := hbr.trans (hv1.mono hsr); have d1 := (hv1.cell (p := ⟨b, off + k * 5, none⟩) hb).trans d0)
            exact ⟨⟨k + 1, by omega, by go_num, hIv, hbv⟩, by simp [intOf]; omega⟩
          · have hq1 : 0 ≤ q := by omega
            clear hy
            go_wp2_with (go_at_call 20; refine (implFindBox_any _ _ _ _ _ _ HIr.out).mono ?_; rintro e v1 ⟨rfl, hv1⟩; rw [show (if boxesB bs then ixOf (idsB bs) y.id else -1) = (k : Int) from hat]; have hIv := HIr.out.below hv1; have hbv := hbr.trans (hv1.mono hsr); have d1 := (hv1.cell (p := ⟨b, off + k * 5, none⟩) hb).trans d0)
            exact ⟨⟨k + 1, by omega, by go_num, hIv, hbv⟩, by simp [intOf]; omega⟩
        · obtain rfl : k = n1 := by omega
          by_cases hq0 : q < 0
          · obtain rfl : q = -1 := by omega
            go_wp2_with (fail)
            go_ret
            exact ⟨rfl, hbr⟩
          · obtain ⟨m, rfl⟩ := Int.eq_ofNat_of_zero_le (show 0 ≤ q by omega)
            have hm : m < k := by omega
            obtain ⟨b, off, hA, hb, hc⟩ := hIr.at_ hm
            subst hA
            have hid := findV_id (bs := bs) (x := x) (by rw [Hq.out]; omega)
            rw [Hq.out, Int.toNat_natCast] at hid
            obtain ⟨d0, _⟩ := hc
            rw [hid] at d0
            have hne : ((m : Int) == -1) = false := beq_eq_false_iff_ne.2 (by omega)
            go_wp2_with (fail)
            go_ret
            exact ⟨rfl, hbr⟩
end Go.Proofs.Ytbhmbmfhbeocoaa
