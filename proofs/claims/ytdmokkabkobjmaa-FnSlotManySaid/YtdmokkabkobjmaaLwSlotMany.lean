/- The walk of the law FnSlotMany: it returns true and leaves the old memory alone. Conditions: that the code reads as bytes. -/
import Derived.Test.YtdmokkabkobjmaaLwHull
namespace Go.Proofs.Ytdmokkabkobjmaa
open Go.RowKit
set_option linter.unusedVariables false

set_option maxHeartbeats 1600000 in
theorem fnSlotMany_walk (A : Option Addr) (n c : Nat) (zs : List Int) (w : World) (h : IsRow .u8 w A n c zs) :
    Calls Try.prog 9 #[.slice A n c] w fun e w' => e = .returned (.bool true) ∧ Below w.heap.size w w' := by
  by_cases hn : 1048576 < n
  · have hn' : (1048576 : Int) < n := by omega
    clear h
    go_enter Try.func9, Try.ntmps9
    go_wp2_with (fail)
    go_ret
    exact ⟨rfl, (by repeat' (first | with_reducible exact Below.refl _ _ | with_reducible assumption | with_reducible refine bel_step (by with_reducible assumption) ?_ ?_ | with_reducible refine Below.drew ?_ | with_reducible refine below_drewN ?_ _ | with_reducible refine Below.alloc ?_ ?_ _ | with_reducible refine Below.setCell ?_ ?_ _ | (simp; done) | (simp; omega) | omega | with_reducible refine below_le (by with_reducible assumption) ?_))⟩
  · have hn' : (n : Int) ≤ 1048576 := by omega
    have H := Lib.hid h
    clear h hn
    go_enter Try.func9, Try.ntmps9
    go_wp2_with (fail)
    refine (drawSlotMany_any _ _ _ _ _ H.out).mono ?_
    rintro e w1 ⟨b, r, t, rfl, hb1⟩
    obtain ⟨hc1, hf1⟩ := bcell hb1
    have z1 := hb1.size
    obtain ⟨r1, r2⟩ := slotManyV_range b r t
    by_cases hm : slotManyV b r t < 0
    · have hm' : slotManyV b r t = -1 := by omega
      clear r1 r2 hm
      go_wp2_with (first
        | (go_at_call 19; refine (implSlotMany_any _ _ _ _).mono ?_; rintro e v1 ⟨rfl, hb1⟩; obtain ⟨hc1, hf1⟩ := bcell hb1; have z1 := hb1.size; (try simp at z1); (have y0 : w1.heap.size < v1.heap.size := by omega))
        | (go_at_call 18; refine (specSlotMany_any _ _ _ _).mono ?_; rintro e v1 ⟨rfl, hb1⟩; obtain ⟨hc1, hf1⟩ := bcell hb1; have z1 := hb1.size; (try simp at z1); (have y0 : w1.heap.size < v1.heap.size := by omega))
        | (go_at_call 25; refine (alive_any _).mono ?_; rintro e w' ⟨rfl, rfl⟩))
      go_ret
      exact ⟨rfl, (by repeat' (first | with_reducible exact Below.refl _ _ | with_reducible assumption | with_reducible refine bel_step (by with_reducible assumption) ?_ ?_ | with_reducible refine Below.drew ?_ | with_reducible refine below_drewN ?_ _ | with_reducible refine Below.alloc ?_ ?_ _ | with_reducible refine Below.setCell ?_ ?_ _ | (simp; done) | (simp; omega) | omega | with_reducible refine below_le (by with_reducible assumption) ?_))⟩
    · have Hp := Lib.hid (fun slot => many_place b r t slot (by omega))
      obtain ⟨m, hm'⟩ : ∃ m, slotManyV b r t = m := ⟨_, rfl⟩
      rw [hm'] at r1 r2 hm Hp
      have hm0 : 0 ≤ m := by omega
      clear hm r1
      go_wp2_with (first
        | (go_at_call 19; refine (implSlotMany_any _ _ _ _).mono ?_; rintro e v1 ⟨rfl, hb2⟩; obtain ⟨hc2, hf2⟩ := bcell hb2; have z2 := hb2.size; (try simp at z2); (have y2 : w1.heap.size < v1.heap.size := by omega))
        | (go_at_call 18; refine (specSlotMany_any _ _ _ _).mono ?_; rintro e v2 ⟨rfl, hb3⟩; obtain ⟨hc3, hf3⟩ := bcell hb3; have z3 := hb3.size; (have y3 : w1.heap.size < v2.heap.size := by omega)))
      have hbs : Below w.heap.size w v2 := (by repeat' (first | with_reducible exact Below.refl _ _ | with_reducible assumption | with_reducible refine bel_step (by with_reducible assumption) ?_ ?_ | with_reducible refine Below.drew ?_ | with_reducible refine below_drewN ?_ _ | with_reducible refine Below.alloc ?_ ?_ _ | with_reducible refine Below.setCell ?_ ?_ _ | (simp; done) | (simp; omega) | omega | with_reducible refine below_le (by with_reducible assumption) ?_))
      have e0 : v2.cell? ⟨w1.heap.size, 0, none⟩ = some (.int .i64 b) := by go_simp
      have e1 : v2.cell? ⟨w1.heap.size, 1, none⟩ = some (.int .i64 r) := by go_simp
      have e2 : v2.cell? ⟨w1.heap.size, 2, none⟩ = some (.int .i64 t) := by go_simp
      have zz : w.heap.size ≤ w1.heap.size := z1
      clear hc1 hf1 hc2 hf2 hc3 hf3 hb2 hb3 z2 z3 y2 hb1
      go_loopw [5] (fun s wr => ∃ x : Int, s = .int .i64 x ∧ -1 ≤ x ∧ x ≤ m + 1 ∧ Below w.heap.size w wr ∧ w1.heap.size < wr.heap.size ∧ wr.cell? ⟨w1.heap.size, 0, none⟩ = some (.int .i64 b) ∧ wr.cell? ⟨w1.heap.size, 1, none⟩ = some (.int .i64 r) ∧ wr.cell? ⟨w1.heap.size, 2, none⟩ = some (.int .i64 t)) (fun s _ => (m + 1 - intOf s).toNat)
      case atStart => exact ⟨-1, rfl, by omega, by omega, hbs, y3, e0, e1, e2⟩
      case round =>
        clear e0 e1 e2 hbs y3
        obtain ⟨s, rfl, s0, s1, hbw, yw, e0, e1, e2⟩ := hrel
        by_cases hs : s ≤ m
        · have hp := Hp.out s
          rcases place_slot b r t s with ⟨h0, h1, h2, h3⟩ | ⟨h0, h1, h2, h3, h4⟩
          · rw [h0] at hp
            have Hpp := Lib.hid hp
            clear hp h0
            have hcase : s < 0 ∨ (0 ≤ s ∧ m ≤ s) := by
              have := Hpp.out
              simp at this
              omega
            rcases hcase with hneg | ⟨hge, hle⟩
            · go_wp2_with (first
                | (go_at_call 21; refine (implPlaceOf_any _ _ _ _ _).mono ?_; rintro e v3 ⟨rfl, hb4⟩; obtain ⟨hc4, hf4⟩ := bcell hb4; have z4 := hb4.size; (have y4 : w1.heap.size < v3.heap.size := by omega)))
              all_goals exact ⟨⟨s + 1, rfl, by omega, by omega, (by repeat' (first | with_reducible exact Below.refl _ _ | with_reducible assumption | with_reducible refine bel_step (by with_reducible assumption) ?_ ?_ | with_reducible refine Below.drew ?_ | with_reducible refine below_drewN ?_ _ | with_reducible refine Below.alloc ?_ ?_ _ | with_reducible refine Below.setCell ?_ ?_ _ | (simp; done) | (simp; omega) | omega | with_reducible refine below_le (by with_reducible assumption) ?_)), y4, by go_simp, by go_simp, by go_simp⟩, by simp [intOf]; omega⟩
            · go_wp2_with (first
                | (go_at_call 21; refine (implPlaceOf_any _ _ _ _ _).mono ?_; rintro e v3 ⟨rfl, hb4⟩; obtain ⟨hc4, hf4⟩ := bcell hb4; have z4 := hb4.size; (have y4 : w1.heap.size < v3.heap.size := by omega)))
              all_goals exact ⟨⟨s + 1, rfl, by omega, by omega, (by repeat' (first | with_reducible exact Below.refl _ _ | with_reducible assumption | with_reducible refine bel_step (by with_reducible assumption) ?_ ?_ | with_reducible refine Below.drew ?_ | with_reducible refine below_drewN ?_ _ | with_reducible refine Below.alloc ?_ ?_ _ | with_reducible refine Below.setCell ?_ ?_ _ | (simp; done) | (simp; omega) | omega | with_reducible refine below_le (by with_reducible assumption) ?_)), y4, by go_simp, by go_simp, by go_simp⟩, by simp [intOf]; omega⟩
          · rw [h0] at hp
            have hin : 0 ≤ s ∧ s < m := by
              have := hp.symm
              simpa using this
            obtain ⟨i0, i1⟩ := hin
            clear hp h0 h4
            go_wp2_with (first
              | (go_at_call 21; refine (implPlaceOf_any _ _ _ _ _).mono ?_; rintro e v3 ⟨rfl, hb4⟩; obtain ⟨hc4, hf4⟩ := bcell hb4; have z4 := hb4.size; (have y4 : w1.heap.size < v3.heap.size := by omega)))
            all_goals exact ⟨⟨s + 1, rfl, by omega, by omega, (by repeat' (first | with_reducible exact Below.refl _ _ | with_reducible assumption | with_reducible refine bel_step (by with_reducible assumption) ?_ ?_ | with_reducible refine Below.drew ?_ | with_reducible refine below_drewN ?_ _ | with_reducible refine Below.alloc ?_ ?_ _ | with_reducible refine Below.setCell ?_ ?_ _ | (simp; done) | (simp; omega) | omega | with_reducible refine below_le (by with_reducible assumption) ?_)), y4, by go_simp, by go_simp, by go_simp⟩, by simp [intOf]; omega⟩
        · go_wp2_with (fail)
          go_ret
          exact ⟨rfl, hbw⟩
end Go.Proofs.Ytdmokkabkobjmaa
