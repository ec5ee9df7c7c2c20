/- The walk of the law FnNumberOf. Conditions: that the code reads as bytes; that strconv's table is as its text lays it. -/
import Derived.Test.YtbchikfckfiklaaDoorNoFwd
import Derived.Test.YtbchikfckfiklaaDoorCrMath
namespace Go.Proofs.YtbchikfckfiklaaDoor
open Go.RowKit
set_option linter.unusedVariables false

def DrawNo (w : World) (e : Ending) (w' : World) : Prop := ∃ (s : ByteArray) (k n : Int), e = .returned (.tuple #[.string s, .int .i64 k, .int .i64 n]) ∧ s.size ≤ 10 ∧ Below w.heap.size w w'
set_option maxHeartbeats 1600000 in
theorem drawNumberOf_any (A : Option Addr) (n c : Nat) (zs : List Int) (w : World) (h : IsRow .u8 w A n c zs) :
    Calls Tryd.prog 11 #[.slice A n c] w (DrawNo w) := by
  have H := Lib.hid h
  clear h
  go_enter Tryd.func11, Tryd.ntmps11
  go_wp2_with (fail)
  refine (l20Open_any _ _ _ _ _ H.out).mono ?_
  rintro e w1 ⟨g, rfl, hr1, hb1⟩
  have hge := hr1.ge
  have hs1 := hb1.size
  go_wp2_with (fail)
  refine (l20Owner_any _ _ _ _ _ hr1 (by omega) (by omega)).mono ?_
  rintro e w2 ⟨ow, rfl, ⟨_, hos⟩, hr2, hg2⟩
  have hb2 := below_grown_step hg2 hb1 hge hs1
  have hs2 := hb2.size
  clear hr1 hg2 hb1 hs1
  go_wp2_with (fail)
  refine (pick_any _ _ _ _ _ hr2 (by omega)).mono ?_
  rintro e w3 ⟨x1, rfl, hx1, hx1', hr3, hg3⟩
  have hb3 := below_grown_step hg3 hb2 hge hs2
  have hs3 := hb3.size
  clear hr2 hg3 hb2 hs2
  go_wp2_with (fail)
  refine (pick_any _ _ _ _ _ hr3 (by omega)).mono ?_
  rintro e w4 ⟨x2, rfl, hx2, hx2', hr4, hg4⟩
  have hb4 := below_grown_step hg4 hb3 hge hs3
  have hs4 := hb4.size
  clear hr3 hg4 hb3 hs3
  obtain ⟨d2, hd2⟩ : ∃ d, x2 / 19 = d := ⟨_, rfl⟩
  have hd2' : x2.tdiv 19 = d2 := by rw [Int.tdiv_eq_ediv_of_nonneg hx2]; exact hd2
  have hd2r : 0 ≤ d2 ∧ d2 ≤ 1 := by omega
  have hw1 : IntKind.i64.wrap d2 = d2 := IntWalk.i64_in _ (by omega)
  have hw2 : IntKind.i64.wrap (d2 * 3) = d2 * 3 := IntWalk.i64_in _ (by omega)
  have hw3 : IntKind.i64.wrap (x1 + d2 * 3) = x1 + d2 * 3 := IntWalk.i64_in _ (by omega)
  go_wp2_with (fail)
  refine (l20Serial_any _ _ _ _ hr4 (by omega)).mono ?_
  rintro e w5 ⟨y, rfl, hy0, hy1, hr5, hg5⟩
  have hb5 := below_grown_step hg5 hb4 hge hs4
  have hs5 := hb5.size
  clear hr4 hg5 hb4 hs4
  go_wp2_with (fail)
  refine (pick_any _ _ _ _ _ hr5 (by omega)).mono ?_
  rintro e w6 ⟨x3, rfl, hx3, hx3', hr6, hg6⟩
  have hb6 := below_grown_step hg6 hb5 hge hs5
  clear hr5 hg6 hb5 hs5 hr6
  obtain ⟨d3, hd3⟩ : ∃ d, x3 / 19 = d := ⟨_, rfl⟩
  have hd3' : x3.tdiv 19 = d3 := by rw [Int.tdiv_eq_ediv_of_nonneg hx3]; exact hd3
  have hd3r : 0 ≤ d3 ∧ d3 ≤ 1 := by omega
  have hw4 : IntKind.i64.wrap d3 = d3 := IntWalk.i64_in _ (by omega)
  have hw5 : IntKind.i64.wrap (d3 * 1000000) = d3 * 1000000 := IntWalk.i64_in _ (by omega)
  have hw6 : IntKind.i64.wrap (y - d3 * 1000000) = y - d3 * 1000000 := IntWalk.i64_in _ (by omega)
  go_wp2_with (fail)
  go_ret3
  exact ⟨ow, _, _, rfl, hos, hb6⟩
set_option maxHeartbeats 1600000 in
theorem fnNumberOf_walk (w : World) (A : Option Addr) (n c : Nat) (zs : List Int) (h : IsRow .u8 w A n c zs) (ht : Tab w) :
    Calls Tryd.prog 5 #[.slice A n c] w fun e w' => e = .returned (.bool true) ∧ Below w.heap.size w w' := by
  by_cases hn : 1048576 < n
  · have hn' : (1048576 : Int) < n := by omega
    clear h ht
    go_enter Tryd.func5, Tryd.ntmps5
    go_wp2_with (fail)
    go_ret
    exact ⟨rfl, (by repeat' (first | with_reducible exact Below.refl _ _ | with_reducible assumption | with_reducible refine bel_step (by with_reducible assumption) ?_ ?_ | with_reducible refine Below.drew ?_ | with_reducible refine below_drewN ?_ _ | with_reducible refine Below.alloc ?_ ?_ _ | with_reducible refine Below.setCell ?_ ?_ _ | (simp; done) | (simp; omega) | omega | with_reducible refine below_le (by with_reducible assumption) ?_))⟩
  · have hn' : (n : Int) ≤ 1048576 := by omega
    have H := Lib.hid h
    have Ht := Lib.hid ht
    clear h hn ht
    go_enter Tryd.func5, Tryd.ntmps5
    go_wp2_with (fail)
    refine (drawNumberOf_any _ _ _ _ _ H.out).mono ?_
    rintro e w1 ⟨ow, k, x, rfl, hos, hb1⟩
    have hs1 := hb1.size
    have Htab1 := Lib.hid (tab_below Ht.out hb1)
    go_wp2_with (fail)
    refine (implNumberOf_any ow k x _ (by omega) Htab1.out).mono ?_
    rintro e w2 ⟨rfl, hb2⟩
    have hb3 := hb1.trans (hb2.mono hs1)
    have hs3 := hb3.size
    clear hb2 hb1 hs1
    go_wp2_with (fail)
    refine (specNumberOf_any ow k x _ (by omega)).mono ?_
    rintro e w4 ⟨rfl, hb4⟩
    have hb5 := hb3.trans (hb4.mono hs3)
    have hs5 := hb5.size
    clear hb4 hb3 hs3
    by_cases he : noV ow k x = ByteArray.empty
    · rw [he]
      clear he
      go_wp2_with (first
        | (go_at_call 12; refine (alive_any _).mono ?_; rintro e w' ⟨rfl, rfl⟩))
      go_ret
      exact ⟨rfl, hb5⟩
    · have hf := no_fwd he
      have hf1 := hf.val
      have hf2 := hf.own
      have hf3 := hf.ser
      have hsz := hf.siz
      clear hf he
      obtain ⟨N, hN⟩ : ∃ N, noV ow k x = N := ⟨_, rfl⟩
      rw [hN] at hf1 hf2 hf3 hsz ⊢
      have hne : (N.toList == ByteArray.empty.toList) = false := by
        rw [str_beq', decide_eq_false]
        rintro rfl
        simp at hsz
      have hne' : N.toList.isEmpty = false := by
        have e0 : ByteArray.empty.toList = [] := by kernel_rfl
        rw [e0] at hne
        have e : ∀ l : List UInt8, l.isEmpty = (l == []) := by intro l; cases l <;> rfl
        rw [e, hne]
      clear hne
      have hsz' : (3 : Int) ≤ (N.size : Int) := by omega
      have Hf1 := Lib.hid hf1
      have Hf3 := Lib.hid hf3
      clear hN hf1 hf3
      go_wp2_with (first
        | (go_at_call 13; refine (implNumberValid_any _ _).mono ?_; rintro e w6 ⟨rfl, hb6⟩; rw [Hf1.out]; have hb7 := hb5.trans (hb6.mono hs5); have hs7 := hb7.size)
        | (go_at_call 10; refine (implSerialOf_any _ _).mono ?_; rintro e w8 ⟨rfl, hb8⟩; rw [Hf3.out]; have hb9 := hb7.trans (hb8.mono hs7)))
      go_ret
      exact ⟨rfl, hb9⟩
end Go.Proofs.YtbchikfckfiklaaDoor
