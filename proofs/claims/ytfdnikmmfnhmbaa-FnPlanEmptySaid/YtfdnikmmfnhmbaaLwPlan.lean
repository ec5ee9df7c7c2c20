/- The walks of the laws FnExactPlanEmpty and FnPlanEmpty. Conditions: those in each statement. -/
import Derived.Test.YtfdnikmmfnhmbaaExPlan2
import Derived.Test.YtfdnikmmfnhmbaaSame
import Derived.Test.YtfdnikmmfnhmbaaDrHull
import Derived.Test.YtfdnikmmfnhmbaaNum
namespace Go.Proofs.Ytfdnikmmfnhmbaa
open Go.RowKit
set_option linter.unusedVariables false

theorem emptyL_len (b r t : Int) : (emptyL b r t).length ≤ 36 := by
  unfold emptyL
  split
  · rename_i h
    obtain ⟨N, hN, _, h2⟩ := hull_slots h
    simp [hN]; omega
  · simp

set_option maxHeartbeats 1600000 in
theorem fnExactPlanEmpty_walk (b r t : Int) (wb : (Lit.int .i64 b).wf = true) (wr : (Lit.int .i64 r).wf = true) (wt : (Lit.int .i64 t).wf = true) (w : World) :
    Calls Try.prog 3 #[.agg #[.int .i64 b, .int .i64 r, .int .i64 t]] w fun e w' => e = .returned (.bool true) ∧ Below w.heap.size w w' := by
  clear wb wr wt
  have hh : Hull3 (w.alloc (.cells #[.int .i64 b, .int .i64 r, .int .i64 t] 23)) w.heap.size b r t := ⟨by simp, by go_simp, by go_simp, by go_simp⟩
  have hq0 : Below w.heap.size w (w.alloc (.cells #[.int .i64 b, .int .i64 r, .int .i64 t] 23)) := (Below.refl _ _).alloc (Nat.le_refl _) _
  have hne := eqL_self (emptyL b r t)
  have hRl := emptyL_len b r t
  obtain ⟨R, hR⟩ : ∃ R, emptyL b r t = R := ⟨_, rfl⟩
  rw [hR] at hne hRl
  have hH0 := hh.1
  obtain ⟨y3, p0, p1, p2⟩ := id hh
  go_enter Try.func3, Try.ntmps3
  go_wp2_with (fail)
  refine (toHull_any _ _ _ _).mono ?_
  rintro e w1 ⟨rfl, h1⟩
  clear p0 p1 p2 y3
  have hh := hh.below h1
  have hb1 := hq0.trans (h1.mono hq0.size)
  have hs1 := h1.size
  clear h1 hq0
  go_wp2_with (fail)
  refine (specPlanEmpty_any _ _ _ _).mono ?_
  rintro e w2 ⟨Aw, nw, cw, rfl, how, h2⟩
  rw [hR] at how
  have hh := hh.below h2
  have hb2 := hb1.trans (h2.mono hb1.size)
  have hs2 := h2.size
  have hwl := how.ints.length
  have hwhi := how.hi
  clear h2 hb1
  obtain ⟨y3, p0, p1, p2⟩ := id hh
  go_wp2_with (fail)
  refine (toHull_any _ _ _ _).mono ?_
  rintro e w3 ⟨rfl, h3⟩
  clear p0 p1 p2 y3
  have hh := hh.below h3
  have how := how.below h3
  have hb3 := hb2.trans (h3.mono hb2.size)
  have hs3 := h3.size
  clear h3 hb2
  go_wp2_with (fail)
  refine (implPlanEmpty_any _ _ _ _).mono ?_
  rintro e w4 ⟨Ag, ng, cg, rfl, hog, h4⟩
  rw [hR] at hog
  have hh := hh.below h4
  have how := how.below h4
  have hb4 := hb3.trans (h4.mono hb3.size)
  have hs4 := h4.size
  have hgl := hog.ints.length
  clear h4 hb3
  go_wp2_with (fail)
  refine (eqIntS_any _ _ _ _ _ _ _ _ _ hog.ints how.ints).mono ?_
  rintro e w5 ⟨rfl, h5⟩
  have hh := hh.below h5
  have how := how.below h5
  have hog := hog.below h5
  have hb5 := hb4.trans (h5.mono hb4.size)
  have hs5 := h5.size
  clear h5 hb4
  go_wp2_with (fail)
  refine (markOwn_any _ _ _ _ _ _ _ hog (by omega) (by omega) (by omega)).mono ?_
  rintro e w6 ⟨rfl, hom, h6', _⟩
  obtain ⟨gg, h6, hgg, hgo⟩ := grown_opt h6' hog
  have hh := hh.apart h6 (by omega)
  have how := how.apart2 h6 (fun k e => by have := hwhi k e; omega)
  have hb6 := below_apart hb5 h6 (by omega) hb5.size
  have hs6 := h6.size
  clear h6 h6' hb5 hog hgo
  have hm0 : ¬ (1 + (ng : Int) < 0) := by omega
  have hm1 : (0 : Int) ≤ 1 + ng := by omega
  go_wp2_with (fail)
  refine (heldIntS_any _ _ _ _ _ hom.ints (by omega) (by omega) (by omega)).mono ?_
  rintro e w7 ⟨rfl, rfl⟩
  obtain ⟨y3, p0, p1, p2⟩ := id hh
  go_wp2_with (fail)
  refine (toHull_any _ _ _ _).mono ?_
  rintro e w8 ⟨rfl, h8⟩
  clear p0 p1 p2 y3
  have how := how.below h8
  have hom := hom.below h8
  have hb8 := hb6.trans (h8.mono hb6.size)
  clear h8 hb6
  go_wp2_with (fail)
  refine (implPlanEmpty_any _ _ _ _).mono ?_
  rintro e w9 ⟨Ah, nh, ch, rfl, hoh, h9⟩
  rw [hR] at hoh
  have how := how.below h9
  have hom := hom.below h9
  have hb9 := hb8.trans (h9.mono hb8.size)
  clear h9 hb8
  go_wp2_with (fail)
  refine (eqIntS_any _ _ _ _ _ _ _ _ _ hoh.ints how.ints).mono ?_
  rintro e w10 ⟨rfl, h10⟩
  have hom := hom.below h10
  have hb10 := hb9.trans (h10.mono hb9.size)
  go_wp2_with (fail)
  refine (heldIntS_any _ _ _ _ _ hom.ints (by omega) (by omega) (by omega)).mono ?_
  rintro e w11 ⟨rfl, rfl⟩
  go_wp2_with (fail)
  go_ret
  exact ⟨rfl, hb10⟩

theorem boxesNil (w : World) : IsBoxes w none 0 0 [] := ⟨Nat.le_refl _, Nat.zero_le _, rfl, fun _ => rfl, fun h => absurd h (by omega)⟩
theorem planB_empty {b r t : Int} (h : hullB b r t = true) : planB b r t [] (emptyL b r t) = true := by
  obtain ⟨N, hN, _, _⟩ := hull_slots h
  have he : emptyL b r t = List.replicate N 0 := by simp [emptyL, h, hN]
  rw [he]
  simp only [planB, h, Bool.true_and, Bool.and_eq_true, decide_eq_true_eq, List.length_replicate]
  refine ⟨⟨rfl, hN.symm⟩, ?_⟩
  simp only [okP, List.all_eq_true, List.mem_range]
  intro k hk
  simp [okAt, List.getD, hk]
theorem someL_empty (b r t : Int) : someL (emptyL b r t) = [] := by
  unfold emptyL someL
  split <;> simp

set_option maxHeartbeats 1600000 in
theorem fnPlanEmpty_walk (A : Option Addr) (n c : Nat) (zs : List Int) (w : World) (h : IsRow .u8 w A n c zs) :
    Calls Try.prog 9 #[.slice A n c] w fun e w' => e = .returned (.bool true) ∧ Below w.heap.size w w' := by
  by_cases hn : 1048576 < n
  · have hn' : (1048576 : Int) < n := by omega
    clear h
    go_enter Try.func9, Try.ntmps9
    go_wp2_with (fail)
    go_ret
    exact ⟨rfl, (by repeat' (first | with_reducible exact Below.refl _ _ | with_reducible assumption | with_reducible refine bel_step (by with_reducible assumption) ?_ ?_ | with_reducible refine Below.drew ?_ | with_reducible refine below_drewN ?_ _ | with_reducible refine Below.alloc ?_ ?_ _ | with_reducible refine Below.setCell ?_ ?_ _ | (simp; done) | (simp; omega) | omega | with_reducible refine below_le (by with_reducible assumption) ?_))⟩
  · have hn' : (n : Int) ≤ 1048576 := by omega
    have H := Lib.hid h
    clear h hn
    go_enter Try.func9, Try.ntmps9
    go_wp2_with (fail)
    refine (drawPlanEmpty_any _ _ _ _ _ H.out).mono ?_
    rintro e w1 ⟨b, r, t, rfl, hb1⟩
    have hne := eqL_self (emptyL b r t)
    have hRl := emptyL_len b r t
    go_wp2_with (fail)
    refine (implPlanEmpty_any _ _ _ _).mono ?_
    rintro e w2 ⟨A2, n2, c2, rfl, ho2, h2⟩
    have hh : Hull3 w2 w1.heap.size b r t := Hull3.below (w := w1.alloc _) ⟨by simp, by go_simp, by go_simp, by go_simp⟩ h2
    have hb2 : Below w.heap.size w w2 := (hb1.alloc hb1.size _).trans (h2.mono (Nat.le_trans hb1.size (by simp)))
    have hl2 := ho2.ints.length
    clear h2 hb1
    obtain ⟨y3, p0, p1, p2⟩ := id hh
    go_wp2_with (fail)
    refine (specPlanEmpty_any _ _ _ _).mono ?_
    rintro e w3 ⟨A3, n3, c3, rfl, ho3, h3⟩
    clear p0 p1 p2 y3
    have hh := hh.below h3
    have ho2 := ho2.below h3
    have hb3 := hb2.trans (h3.mono hb2.size)
    clear h3 hb2
    go_wp2_with (fail)
    refine (sameInts_any _ _ _ _ _ _ _ _ _ ho2.ints ho3.ints).mono ?_
    rintro e w4 ⟨rfl, h4⟩
    have hh := hh.below h4
    have ho2 := ho2.below h4
    have hb4 := hb3.trans (h4.mono hb3.size)
    have hs4 := hb4.size
    clear h4 hb3 ho3
    obtain ⟨y3, p0, p1, p2⟩ := id hh
    cases hu : hullB b r t with
    | false =>
      obtain rfl : n2 = 0 := by rw [← hl2]; simp [emptyL, hu]
      go_wp2_with (first
        | (go_at_call 33; refine (implHullValid_no _ _ _ _ hu).mono ?_; rintro e w5 ⟨rfl, h5⟩; have hb5 := hb4.trans (h5.mono hs4))
        | (go_at_call 34; refine (alive_any _).mono ?_; rintro e w' ⟨rfl, rfl⟩))
      go_ret
      exact ⟨rfl, hb5⟩
    | true =>
      have hpl := planB_empty hu
      have hso := someL_empty b r t
      obtain ⟨N, hN, hN1, hN2⟩ := hull_slots hu
      obtain rfl : n2 = N := by rw [← hl2]; simp [emptyL, hu, hN]
      have hsm : slotManyV b r t = n2 := by simp [slotManyV, hu, hN]
      have hn0 : ¬ (n2 : Int) = 0 := by omega
      have hn0' : ((n2 : Int) == 0) = false := beq_eq_false_iff_ne.2 hn0
      have hid : idsP b r t [] (emptyL b r t) = [] := by rw [idsP, if_pos hpl, hso]
      clear p0 p1 p2 y3
      obtain ⟨y3, p0, p1, p2⟩ := id hh
      go_wp2_with (fail)
      refine (implSlotMany_any _ _ _ _).mono ?_
      rintro e w5 ⟨rfl, h5⟩
      rw [hsm]
      clear p0 p1 p2 y3
      have hh := hh.below h5
      have ho2 := ho2.below h5
      have hb5 := hb4.trans (h5.mono hb4.size)
      clear h5 hb4 hs4
      obtain ⟨y3, p0, p1, p2⟩ := id hh
      go_wp2_with (fail)
      refine (implPlanIds_any _ _ _ _ _ _ _ _ _ _ _ _ (boxesNil _) ho2.ints).mono ?_
      rintro e w6 ⟨A6, n6, c6, rfl, ho6, h6⟩
      rw [hid] at ho6
      obtain rfl : n6 = 0 := ho6.ints.length.symm
      clear p0 p1 p2 y3
      have hh := hh.below h6
      have ho2 := ho2.below h6
      have hb6 := hb5.trans (h6.mono hb5.size)
      clear h6 hb5 ho6
      obtain ⟨y3, p0, p1, p2⟩ := id hh
      go_wp2_with (fail)
      refine (implPlanValid_any _ _ _ _ _ _ _ _ _ _ _ _ (boxesNil _) ho2.ints).mono ?_
      rintro e w7 ⟨rfl, h7⟩
      rw [hpl]
      have hb7 := hb6.trans (h7.mono hb6.size)
      go_wp2_with (fail)
      go_ret
      exact ⟨rfl, hb7⟩
end Go.Proofs.Ytfdnikmmfnhmbaa
