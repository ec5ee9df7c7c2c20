/- The walks of the laws FnExactPlanIds and FnExactPlanNext: each returns true and leaves the old memory alone. Conditions: that the slices read as boxes and integers. (Printed by wip/genexplan.py.) -/
import Derived.Test.YtfdnikmmfnhmbaaPlan5
import Derived.Test.YtfdnikmmfnhmbaaMarkB
namespace Go.Proofs.Ytfdnikmmfnhmbaa
open Go.RowKit
set_option linter.unusedVariables false

theorem Own.apart2 {w w' : World} {B n c : Nat} {A : Option Addr} {xs : List Int} (h : Own w B A n c xs) {g : Nat} (hg : w.grownBy w' (some g)) (hne : ∀ k, A = some ⟨k, 0, none⟩ → k ≠ g) : Own w' B A n c xs :=
  h.grown (v := .slice (some ⟨g, 0, none⟩) 0 0) hg fun k e e2 => by
    simp only [Value.ownBlock] at e2
    injection e2 with e2
    exact hne k e e2
theorem Own.lo {w : World} {B n c : Nat} {A : Option Addr} {xs : List Int} (h : Own w B A n c xs) : ∀ g, A = some ⟨g, 0, none⟩ → B ≤ g := by
  intro g e
  rcases h with ⟨rfl, _⟩ | ⟨g1, rfl, h1, h2⟩
  · cases e
  · injection e with e
    injection e with e
    subst e
    exact h1
theorem Own.hi {w : World} {B n c : Nat} {A : Option Addr} {xs : List Int} (h : Own w B A n c xs) : ∀ g, A = some ⟨g, 0, none⟩ → g < w.heap.size := by
  intro g e
  rcases h with ⟨rfl, _⟩ | ⟨g1, rfl, h1, h2⟩
  · cases e
  · injection e with e
    injection e with e
    subst e
    exact h2.lt
theorem Hull3.apart {w w' : World} {g0 g : Nat} {b r t : Int} (h : Hull3 w g0 b r t) (hg : w.grownBy w' (some g)) (hne : g0 ≠ g) : Hull3 w' g0 b r t := by
  have hn : ∀ i, w'.cell? ⟨g0, i, none⟩ = w.cell? ⟨g0, i, none⟩ := fun i => World.cell?_of_block (a := ⟨g0, i, none⟩) (hg.block g0 h.1 (fun e => hne (by injection e)))
  exact ⟨Nat.lt_of_lt_of_le h.1 hg.size, (hn 0).trans h.2.1, (hn 1).trans h.2.2.1, (hn 2).trans h.2.2.2⟩
theorem below_apart {B g : Nat} {a b c : World} (hk : Below B a b) (h : b.grownBy c (some g)) (hg : B ≤ g) (hB : B ≤ b.heap.size) : Below B a c :=
  hk.trans ⟨h.os, h.tape, h.output, h.size, fun i hi => h.block i (by omega) (fun e => by injection e with e; omega)⟩
/-- an own row's block, or none -/
theorem grown_opt {w w' : World} {A : Option Addr} {n c : Nat} (h : w.grownBy w' (Value.slice A n c).ownBlock) {xs : List Int} {B : Nat} (ho : Own w B A n c xs) : ∃ g, w.grownBy w' (some g) ∧ B ≤ g ∧ (w.heap.size ≤ g ∨ A = some ⟨g, 0, none⟩) := by
  rcases ho with ⟨rfl, _⟩ | ⟨g, rfl, hg, h2⟩
  · refine ⟨max B w.heap.size, ⟨h.os, h.tape, h.output, h.size, fun k hk _ => h.block k hk (by simp [Value.ownBlock])⟩, by omega, .inl (by omega)⟩
  · exact ⟨g, h, hg, .inr rfl⟩

theorem idsP_len (b r t : Int) (bs : List Bx) (xs : List Int) : (idsP b r t bs xs).length ≤ 36 := by
  unfold idsP
  split
  · rename_i h
    have := planB_len h
    have := List.length_filter_le (fun v : Int => v != 0) xs
    unfold someL
    omega
  · simp
theorem nextP_len (b r t : Int) (bs : List Bx) (xs : List Int) : (nextP b r t bs xs).length ≤ 36 := by
  unfold nextP
  split
  · rename_i h
    have h1 := planB_len h
    have h2 := List.length_filter_le (freeAt t xs) (List.range xs.length)
    simp only [nextL, List.length_map, List.length_range] at h2 ⊢
    omega
  · simp
set_option maxHeartbeats 3200000 in
theorem fnExactPlanIds_walk (b r t : Int) (A : Option Addr) (n c : Nat) (bs : List Bx) (A' : Option Addr) (n' c' : Nat) (zs : List Int) (w : World) (wb : (Lit.int .i64 b).wf = true) (wr : (Lit.int .i64 r).wf = true) (wt : (Lit.int .i64 t).wf = true) (h : IsBoxes w A n c bs) (h' : IsRow .i64 w A' n' c' zs) :
    Calls Try.prog 6 #[.agg #[.int .i64 b, .int .i64 r, .int .i64 t], .slice A n c, .slice A' n' c'] w fun e w' => e = .returned (.bool true) ∧ Below w.heap.size w w' := by
  clear wb wr wt
  have hlen := h.len
  have H := Lib.hid h
  clear h
  have hZ := Ints.of_row h'
  obtain ⟨xs, hxs⟩ : ∃ xs, zs.take n' = xs := ⟨_, rfl⟩
  rw [hxs] at hZ
  have HZ := Lib.hid hZ
  have hlz := hZ.length
  clear h' hZ hxs
  by_cases hn' : (1048576 : Int) < n'
  · go_enter Try.func6, Try.ntmps6
    go_wp2_with (fail)
    go_ret
    exact ⟨rfl, (by repeat' (first | with_reducible exact Below.refl _ _ | with_reducible assumption | with_reducible refine bel_step (by with_reducible assumption) ?_ ?_ | with_reducible refine Below.drew ?_ | with_reducible refine below_drewN ?_ _ | with_reducible refine Below.alloc ?_ ?_ _ | with_reducible refine Below.setCell ?_ ?_ _ | (simp; done) | (simp; omega) | omega | with_reducible refine below_le (by with_reducible assumption) ?_))⟩
  · have hn1 : (n' : Int) ≤ 1048576 := by omega
    go_enter Try.func6, Try.ntmps6
    go_wp2_with (fail)
    refine (szBoxS_any _ _ _ _ _ (by omega) (by omega) hlen).mono ?_
    rintro e w0 ⟨rfl, hb0⟩
    have hq0 : Below w.heap.size w w0 := ((Below.refl _ _).alloc (Nat.le_refl _) _).trans (hb0.mono (by simp))
    by_cases hn : (1048576 : Int) - n < 0
    · rw [if_pos hn]
      go_wp2_with (fail)
      go_ret
      exact ⟨rfl, hq0⟩
    · rw [if_neg hn]
      have hI := H.out.below hq0
      have hZ := HZ.out.below hq0
      have hh : Hull3 w0 w.heap.size b r t := Hull3.below (w := w.alloc _) ⟨by simp, by go_simp, by go_simp, by go_simp⟩ hb0
      have he := eqL_self xs
      clear hb0
      have hne := eqL_self (idsP b r t bs xs)
      have hRl := idsP_len b r t bs xs
      obtain ⟨R, hR⟩ : ∃ R, idsP b r t bs xs = R := ⟨_, rfl⟩
      rw [hR] at hne hRl
      have hH0 := hh.1
      have hlb := H.out.length
      have hh0 := hh
      obtain ⟨y3, p0, p1, p2⟩ := hh0
      go_wp2_with (fail)
      refine (toHull_any _ _ _ _).mono ?_
      rintro e w1 ⟨rfl, hq1⟩
      clear p0 p1 p2 y3
      have hI := hI.below hq1
      have hZ := hZ.below hq1
      have hh := hh.below hq1
      have hb1 := hq0.trans (hq1.mono hq0.size)
      have hs1 := hq1.size
      clear hq0 hq1
      have hh0 := hh
      obtain ⟨y3, p0, p1, p2⟩ := hh0
      go_wp2_with (fail)
      refine (toBoxS_any _ _ _ _ _ hI (by omega)).mono ?_
      rintro e w2 ⟨g2, n2, rfl, hg2, ho1, hq2⟩
      clear p0 p1 p2 y3
      have hI := hI.below hq2
      have hZ := hZ.below hq2
      have hh := hh.below hq2
      have hb2 := hb1.trans (hq2.mono hb1.size)
      have hs2 := hq2.size
      clear hb1 hq2
      have hh0 := hh
      obtain ⟨y3, p0, p1, p2⟩ := hh0
      go_wp2_with (fail)
      refine (toIntS_any _ _ _ _ _ hZ (by omega)).mono ?_
      rintro e w3 ⟨g3, n3, rfl, hg3, ho2, hq3⟩
      clear p0 p1 p2 y3
      have hI := hI.below hq3
      have hZ := hZ.below hq3
      have hh := hh.below hq3
      have ho1 := ho1.below hq3
      have hb3 := hb2.trans (hq3.mono hb2.size)
      have hs3 := hq3.size
      clear hb2 hq3
      have hh0 := hh
      obtain ⟨y3, p0, p1, p2⟩ := hh0
      go_wp2_with (fail)
      refine (specPlanIds_any _ _ _ _ _ _ _ _ _ _ _ _ ho1.boxes ho2.ints).mono ?_
      rintro e w4 ⟨Aw, nw, cw, rfl, how, hq4⟩
      clear p0 p1 p2 y3
      have hI := hI.below hq4
      have hZ := hZ.below hq4
      have hh := hh.below hq4
      have ho1 := ho1.below hq4
      have ho2 := ho2.below hq4
      have hb4 := hb3.trans (hq4.mono hb3.size)
      have hs4 := hq4.size
      clear hb3 hq4
      rw [hR] at how
      have hwl := how.ints.length
      have hwhi := how.hi
      have hz4 : w4.heap.size = w4.heap.size := rfl
      clear ho1 ho2
      have hh0 := hh
      obtain ⟨y3, p0, p1, p2⟩ := hh0
      go_wp2_with (fail)
      refine (toBoxS_any _ _ _ _ _ hI (by omega)).mono ?_
      rintro e w5 ⟨g5, n5, rfl, hg5, ho3, hq5⟩
      clear p0 p1 p2 y3
      have hI := hI.below hq5
      have hZ := hZ.below hq5
      have hh := hh.below hq5
      have how := how.below hq5
      have hb5 := hb4.trans (hq5.mono hb4.size)
      have hs5 := hq5.size
      clear hb4 hq5
      have hx3 := ho3.1
      have hh0 := hh
      obtain ⟨y3, p0, p1, p2⟩ := hh0
      go_wp2_with (fail)
      refine (toIntS_any _ _ _ _ _ hZ (by omega)).mono ?_
      rintro e w6 ⟨g6, n6, rfl, hg6, ho4, hq6⟩
      clear p0 p1 p2 y3
      have hI := hI.below hq6
      have hZ := hZ.below hq6
      have hh := hh.below hq6
      have how := how.below hq6
      have ho3 := ho3.below hq6
      have hb6 := hb5.trans (hq6.mono hb5.size)
      have hs6 := hq6.size
      clear hb5 hq6
      have hx4 := ho4.lt
      have hh0 := hh
      obtain ⟨y3, p0, p1, p2⟩ := hh0
      go_wp2_with (fail)
      refine (toHull_any _ _ _ _).mono ?_
      rintro e w7 ⟨rfl, hq7⟩
      clear p0 p1 p2 y3
      have hI := hI.below hq7
      have hZ := hZ.below hq7
      have hh := hh.below hq7
      have how := how.below hq7
      have ho3 := ho3.below hq7
      have ho4 := ho4.below hq7
      have hb7 := hb6.trans (hq7.mono hb6.size)
      have hs7 := hq7.size
      clear hb6 hq7
      have hh0 := hh
      obtain ⟨y3, p0, p1, p2⟩ := hh0
      go_wp2_with (fail)
      refine (implPlanIds_any _ _ _ _ _ _ _ _ _ _ _ _ ho3.boxes ho4.ints).mono ?_
      rintro e w8 ⟨Ag, ng, cg, rfl, hog, hq8⟩
      clear p0 p1 p2 y3
      have hI := hI.below hq8
      have hZ := hZ.below hq8
      have hh := hh.below hq8
      have how := how.below hq8
      have ho3 := ho3.below hq8
      have ho4 := ho4.below hq8
      have hb8 := hb7.trans (hq8.mono hb7.size)
      have hs8 := hq8.size
      clear hb7 hq8
      rw [hR] at hog
      have hgl := hog.ints.length
      have hglo := hog.lo
      have hh0 := hh
      obtain ⟨y3, p0, p1, p2⟩ := hh0
      go_wp2_with (fail)
      refine (eqIntS_any _ _ _ _ _ _ _ _ _ hog.ints how.ints).mono ?_
      rintro e w9 ⟨rfl, hq9⟩
      clear p0 p1 p2 y3
      have hI := hI.below hq9
      have hZ := hZ.below hq9
      have hh := hh.below hq9
      have how := how.below hq9
      have ho3 := ho3.below hq9
      have ho4 := ho4.below hq9
      have hog := hog.below hq9
      have hb9 := hb8.trans (hq9.mono hb8.size)
      have hs9 := hq9.size
      clear hb8 hq9
      have hh0 := hh
      obtain ⟨y3, p0, p1, p2⟩ := hh0
      go_wp2_with (fail)
      refine (toBoxS_any _ _ _ _ _ hI (by omega)).mono ?_
      rintro e w10 ⟨g10, n10, rfl, hg10, ho5, hq10⟩
      clear p0 p1 p2 y3
      have hI := hI.below hq10
      have hZ := hZ.below hq10
      have hh := hh.below hq10
      have how := how.below hq10
      have ho3 := ho3.below hq10
      have ho4 := ho4.below hq10
      have hog := hog.below hq10
      have hb10 := hb9.trans (hq10.mono hb9.size)
      have hs10 := hq10.size
      clear hb9 hq10
      have ha1 := ho3.2.1
      have ha2 := ho5.2.1
      obtain rfl : n10 = n5 := by omega
      have hh0 := hh
      obtain ⟨y3, p0, p1, p2⟩ := hh0
      go_wp2_with (fail)
      refine (eqBoxS_same _ _ _ _ _ _ _ ho3.boxes ho5.boxes).mono ?_
      rintro e w11 ⟨rfl, hq11⟩
      clear p0 p1 p2 y3
      have hI := hI.below hq11
      have hZ := hZ.below hq11
      have hh := hh.below hq11
      have how := how.below hq11
      have ho3 := ho3.below hq11
      have ho4 := ho4.below hq11
      have hog := hog.below hq11
      have ho5 := ho5.below hq11
      have hb11 := hb10.trans (hq11.mono hb10.size)
      have hs11 := hq11.size
      clear hb10 hq11
      clear ho5
      have hh0 := hh
      obtain ⟨y3, p0, p1, p2⟩ := hh0
      go_wp2_with (fail)
      refine (toIntS_any _ _ _ _ _ hZ (by omega)).mono ?_
      rintro e w12 ⟨g12, n12, rfl, hg12, ho6, hq12⟩
      clear p0 p1 p2 y3
      have hI := hI.below hq12
      have hZ := hZ.below hq12
      have hh := hh.below hq12
      have how := how.below hq12
      have ho3 := ho3.below hq12
      have ho4 := ho4.below hq12
      have hog := hog.below hq12
      have hb12 := hb11.trans (hq12.mono hb11.size)
      have hs12 := hq12.size
      clear hb11 hq12
      have hh0 := hh
      obtain ⟨y3, p0, p1, p2⟩ := hh0
      go_wp2_with (fail)
      refine (eqIntS_any _ _ _ _ _ _ _ _ _ ho4.ints ho6.ints).mono ?_
      rintro e w13 ⟨rfl, hq13⟩
      clear p0 p1 p2 y3
      have hI := hI.below hq13
      have hZ := hZ.below hq13
      have hh := hh.below hq13
      have how := how.below hq13
      have ho3 := ho3.below hq13
      have ho4 := ho4.below hq13
      have hog := hog.below hq13
      have ho6 := ho6.below hq13
      have hb13 := hb12.trans (hq13.mono hb12.size)
      have hs13 := hq13.size
      clear hb12 hq13
      clear ho6
      have hl4 := ho4.length
      have hl3 := ho3.2.1
      have hh0 := hh
      obtain ⟨y3, p0, p1, p2⟩ := hh0
      go_wp2_with (fail)
      refine (markBoxS_any _ _ _ _ _ ho3 (by omega) (by omega) (by omega)).mono ?_
      rintro e w14 ⟨rfl, hq14⟩
      clear p0 p1 p2 y3
      have hh := hh.apart hq14 (by omega)
      have how := how.apart2 hq14 (fun k e => by have := hwhi k e; omega)
      have hog := hog.apart2 hq14 (fun k e => by have := hglo k e; omega)
      have ho4 := ho4.keep (hq14.block _ ho4.lt (fun e => by injection e with e; omega))
      have hb14 := below_apart hb13 hq14 (by omega) hb13.size
      have hI := H.out.below hb14
      have hZ := HZ.out.below hb14
      have hs14 := hq14.size
      clear hb13 hq14
      clear ho3
      have hh0 := hh
      obtain ⟨y3, p0, p1, p2⟩ := hh0
      go_wp2_with (fail)
      refine (markIntS_any _ _ _ _ _ _ ho4 (by omega) (by omega) (by omega)).mono ?_
      rintro e w15 ⟨rfl, hom, hq15⟩
      clear p0 p1 p2 y3
      have hh := hh.apart hq15 (by omega)
      have how := how.apart2 hq15 (fun k e => by have := hwhi k e; omega)
      have hog := hog.apart2 hq15 (fun k e => by have := hglo k e; omega)
      have hb15 := below_apart hb14 hq15 (by omega) hb14.size
      have hI := H.out.below hb15
      have hZ := HZ.out.below hb15
      have hs15 := hq15.size
      clear hb14 hq15
      clear ho4 hom
      have hk0 : ¬ (1 + 5 * (n10 : Int) + n6 < 0) := by omega
      have hk1 : (0 : Int) ≤ 1 + 5 * (n10 : Int) + n6 := by omega
      have hh0 := hh
      obtain ⟨y3, p0, p1, p2⟩ := hh0
      go_wp2_with (fail)
      refine (eqIntS_any _ _ _ _ _ _ _ _ _ hog.ints how.ints).mono ?_
      rintro e w16 ⟨rfl, hq16⟩
      clear p0 p1 p2 y3
      have hI := hI.below hq16
      have hZ := hZ.below hq16
      have hh := hh.below hq16
      have how := how.below hq16
      have hog := hog.below hq16
      have hb16 := hb15.trans (hq16.mono hb15.size)
      have hs16 := hq16.size
      clear hb15 hq16
      have hh0 := hh
      obtain ⟨y3, p0, p1, p2⟩ := hh0
      go_wp2_with (fail)
      refine (markOwn_any _ _ _ _ _ _ _ hog (by omega) (by omega) (by omega)).mono ?_
      rintro e w17 ⟨rfl, hom, hq17, _⟩
      clear p0 p1 p2 y3
      obtain ⟨gg, hq17, hgg, hgo⟩ := grown_opt hq17 hog
      have hh := hh.apart hq17 (by omega)
      have how := how.apart2 hq17 (fun k e => by have := hwhi k e; omega)
      have hb17 := below_apart hb16 hq17 (by omega) hb16.size
      have hI := H.out.below hb17
      have hZ := HZ.out.below hb17
      have hs17 := hq17.size
      clear hb16 hq17 hog hgo
      have hm0 : ¬ (1 + (ng : Int) < 0) := by omega
      have hm1 : (0 : Int) ≤ 1 + ng := by omega
      have hh0 := hh
      obtain ⟨y3, p0, p1, p2⟩ := hh0
      go_wp2_with (fail)
      refine (heldIntS_any _ _ _ _ _ hom.ints (by omega) (by omega) (by omega)).mono ?_
      rintro e w18 ⟨rfl, rfl⟩
      clear p0 p1 p2 y3
      have hh0 := hh
      obtain ⟨y3, p0, p1, p2⟩ := hh0
      go_wp2_with (fail)
      refine (toHull_any _ _ _ _).mono ?_
      rintro e w19 ⟨rfl, hq19⟩
      clear p0 p1 p2 y3
      have hI := hI.below hq19
      have hZ := hZ.below hq19
      have hh := hh.below hq19
      have how := how.below hq19
      have hom := hom.below hq19
      have hb19 := hb17.trans (hq19.mono hb17.size)
      have hs19 := hq19.size
      clear hb17 hq19
      have hh0 := hh
      obtain ⟨y3, p0, p1, p2⟩ := hh0
      go_wp2_with (fail)
      refine (toBoxS_any _ _ _ _ _ hI (by omega)).mono ?_
      rintro e w20 ⟨g20, n20, rfl, hg20, ho7, hq20⟩
      clear p0 p1 p2 y3
      have hI := hI.below hq20
      have hZ := hZ.below hq20
      have hh := hh.below hq20
      have how := how.below hq20
      have hom := hom.below hq20
      have hb20 := hb19.trans (hq20.mono hb19.size)
      have hs20 := hq20.size
      clear hb19 hq20
      have hh0 := hh
      obtain ⟨y3, p0, p1, p2⟩ := hh0
      go_wp2_with (fail)
      refine (toIntS_any _ _ _ _ _ hZ (by omega)).mono ?_
      rintro e w21 ⟨g21, n21, rfl, hg21, ho8, hq21⟩
      clear p0 p1 p2 y3
      have hI := hI.below hq21
      have hZ := hZ.below hq21
      have hh := hh.below hq21
      have how := how.below hq21
      have hom := hom.below hq21
      have ho7 := ho7.below hq21
      have hb21 := hb20.trans (hq21.mono hb20.size)
      have hs21 := hq21.size
      clear hb20 hq21
      have hh0 := hh
      obtain ⟨y3, p0, p1, p2⟩ := hh0
      go_wp2_with (fail)
      refine (implPlanIds_any _ _ _ _ _ _ _ _ _ _ _ _ ho7.boxes ho8.ints).mono ?_
      rintro e w22 ⟨Ah, nh, ch, rfl, hoh, hq22⟩
      clear p0 p1 p2 y3
      have hI := hI.below hq22
      have hZ := hZ.below hq22
      have hh := hh.below hq22
      have how := how.below hq22
      have hom := hom.below hq22
      have ho7 := ho7.below hq22
      have ho8 := ho8.below hq22
      have hb22 := hb21.trans (hq22.mono hb21.size)
      have hs22 := hq22.size
      clear hb21 hq22
      rw [hR] at hoh
      clear ho7 ho8
      have hh0 := hh
      obtain ⟨y3, p0, p1, p2⟩ := hh0
      go_wp2_with (fail)
      refine (eqIntS_any _ _ _ _ _ _ _ _ _ hoh.ints how.ints).mono ?_
      rintro e w23 ⟨rfl, hq23⟩
      clear p0 p1 p2 y3
      have hI := hI.below hq23
      have hZ := hZ.below hq23
      have hh := hh.below hq23
      have how := how.below hq23
      have hom := hom.below hq23
      have hoh := hoh.below hq23
      have hb23 := hb22.trans (hq23.mono hb22.size)
      have hs23 := hq23.size
      clear hb22 hq23
      have hh0 := hh
      obtain ⟨y3, p0, p1, p2⟩ := hh0
      go_wp2_with (fail)
      refine (heldIntS_any _ _ _ _ _ hom.ints (by omega) (by omega) (by omega)).mono ?_
      rintro e w24 ⟨rfl, rfl⟩
      clear p0 p1 p2 y3
      go_wp2_with (fail)
      go_ret
      exact ⟨rfl, hb23⟩
set_option maxHeartbeats 3200000 in
theorem fnExactPlanNext_walk (b r t : Int) (A : Option Addr) (n c : Nat) (bs : List Bx) (A' : Option Addr) (n' c' : Nat) (zs : List Int) (w : World) (wb : (Lit.int .i64 b).wf = true) (wr : (Lit.int .i64 r).wf = true) (wt : (Lit.int .i64 t).wf = true) (h : IsBoxes w A n c bs) (h' : IsRow .i64 w A' n' c' zs) :
    Calls Try.prog 7 #[.agg #[.int .i64 b, .int .i64 r, .int .i64 t], .slice A n c, .slice A' n' c'] w fun e w' => e = .returned (.bool true) ∧ Below w.heap.size w w' := by
  clear wb wr wt
  have hlen := h.len
  have H := Lib.hid h
  clear h
  have hZ := Ints.of_row h'
  obtain ⟨xs, hxs⟩ : ∃ xs, zs.take n' = xs := ⟨_, rfl⟩
  rw [hxs] at hZ
  have HZ := Lib.hid hZ
  have hlz := hZ.length
  clear h' hZ hxs
  by_cases hn' : (1048576 : Int) < n'
  · go_enter Try.func7, Try.ntmps7
    go_wp2_with (fail)
    go_ret
    exact ⟨rfl, (by repeat' (first | with_reducible exact Below.refl _ _ | with_reducible assumption | with_reducible refine bel_step (by with_reducible assumption) ?_ ?_ | with_reducible refine Below.drew ?_ | with_reducible refine below_drewN ?_ _ | with_reducible refine Below.alloc ?_ ?_ _ | with_reducible refine Below.setCell ?_ ?_ _ | (simp; done) | (simp; omega) | omega | with_reducible refine below_le (by with_reducible assumption) ?_))⟩
  · have hn1 : (n' : Int) ≤ 1048576 := by omega
    go_enter Try.func7, Try.ntmps7
    go_wp2_with (fail)
    refine (szBoxS_any _ _ _ _ _ (by omega) (by omega) hlen).mono ?_
    rintro e w0 ⟨rfl, hb0⟩
    have hq0 : Below w.heap.size w w0 := ((Below.refl _ _).alloc (Nat.le_refl _) _).trans (hb0.mono (by simp))
    by_cases hn : (1048576 : Int) - n < 0
    · rw [if_pos hn]
      go_wp2_with (fail)
      go_ret
      exact ⟨rfl, hq0⟩
    · rw [if_neg hn]
      have hI := H.out.below hq0
      have hZ := HZ.out.below hq0
      have hh : Hull3 w0 w.heap.size b r t := Hull3.below (w := w.alloc _) ⟨by simp, by go_simp, by go_simp, by go_simp⟩ hb0
      have he := eqL_self xs
      clear hb0
      have hne := eqL_self (nextP b r t bs xs)
      have hRl := nextP_len b r t bs xs
      obtain ⟨R, hR⟩ : ∃ R, nextP b r t bs xs = R := ⟨_, rfl⟩
      rw [hR] at hne hRl
      have hH0 := hh.1
      have hlb := H.out.length
      have hh0 := hh
      obtain ⟨y3, p0, p1, p2⟩ := hh0
      go_wp2_with (fail)
      refine (toHull_any _ _ _ _).mono ?_
      rintro e w1 ⟨rfl, hq1⟩
      clear p0 p1 p2 y3
      have hI := hI.below hq1
      have hZ := hZ.below hq1
      have hh := hh.below hq1
      have hb1 := hq0.trans (hq1.mono hq0.size)
      have hs1 := hq1.size
      clear hq0 hq1
      have hh0 := hh
      obtain ⟨y3, p0, p1, p2⟩ := hh0
      go_wp2_with (fail)
      refine (toBoxS_any _ _ _ _ _ hI (by omega)).mono ?_
      rintro e w2 ⟨g2, n2, rfl, hg2, ho1, hq2⟩
      clear p0 p1 p2 y3
      have hI := hI.below hq2
      have hZ := hZ.below hq2
      have hh := hh.below hq2
      have hb2 := hb1.trans (hq2.mono hb1.size)
      have hs2 := hq2.size
      clear hb1 hq2
      have hh0 := hh
      obtain ⟨y3, p0, p1, p2⟩ := hh0
      go_wp2_with (fail)
      refine (toIntS_any _ _ _ _ _ hZ (by omega)).mono ?_
      rintro e w3 ⟨g3, n3, rfl, hg3, ho2, hq3⟩
      clear p0 p1 p2 y3
      have hI := hI.below hq3
      have hZ := hZ.below hq3
      have hh := hh.below hq3
      have ho1 := ho1.below hq3
      have hb3 := hb2.trans (hq3.mono hb2.size)
      have hs3 := hq3.size
      clear hb2 hq3
      have hh0 := hh
      obtain ⟨y3, p0, p1, p2⟩ := hh0
      go_wp2_with (fail)
      refine (specPlanNext_any _ _ _ _ _ _ _ _ _ _ _ _ ho1.boxes ho2.ints).mono ?_
      rintro e w4 ⟨Aw, nw, cw, rfl, how, hq4⟩
      clear p0 p1 p2 y3
      have hI := hI.below hq4
      have hZ := hZ.below hq4
      have hh := hh.below hq4
      have ho1 := ho1.below hq4
      have ho2 := ho2.below hq4
      have hb4 := hb3.trans (hq4.mono hb3.size)
      have hs4 := hq4.size
      clear hb3 hq4
      rw [hR] at how
      have hwl := how.ints.length
      have hwhi := how.hi
      have hz4 : w4.heap.size = w4.heap.size := rfl
      clear ho1 ho2
      have hh0 := hh
      obtain ⟨y3, p0, p1, p2⟩ := hh0
      go_wp2_with (fail)
      refine (toBoxS_any _ _ _ _ _ hI (by omega)).mono ?_
      rintro e w5 ⟨g5, n5, rfl, hg5, ho3, hq5⟩
      clear p0 p1 p2 y3
      have hI := hI.below hq5
      have hZ := hZ.below hq5
      have hh := hh.below hq5
      have how := how.below hq5
      have hb5 := hb4.trans (hq5.mono hb4.size)
      have hs5 := hq5.size
      clear hb4 hq5
      have hx3 := ho3.1
      have hh0 := hh
      obtain ⟨y3, p0, p1, p2⟩ := hh0
      go_wp2_with (fail)
      refine (toIntS_any _ _ _ _ _ hZ (by omega)).mono ?_
      rintro e w6 ⟨g6, n6, rfl, hg6, ho4, hq6⟩
      clear p0 p1 p2 y3
      have hI := hI.below hq6
      have hZ := hZ.below hq6
      have hh := hh.below hq6
      have how := how.below hq6
      have ho3 := ho3.below hq6
      have hb6 := hb5.trans (hq6.mono hb5.size)
      have hs6 := hq6.size
      clear hb5 hq6
      have hx4 := ho4.lt
      have hh0 := hh
      obtain ⟨y3, p0, p1, p2⟩ := hh0
      go_wp2_with (fail)
      refine (toHull_any _ _ _ _).mono ?_
      rintro e w7 ⟨rfl, hq7⟩
      clear p0 p1 p2 y3
      have hI := hI.below hq7
      have hZ := hZ.below hq7
      have hh := hh.below hq7
      have how := how.below hq7
      have ho3 := ho3.below hq7
      have ho4 := ho4.below hq7
      have hb7 := hb6.trans (hq7.mono hb6.size)
      have hs7 := hq7.size
      clear hb6 hq7
      have hh0 := hh
      obtain ⟨y3, p0, p1, p2⟩ := hh0
      go_wp2_with (fail)
      refine (implPlanNext_any _ _ _ _ _ _ _ _ _ _ _ _ ho3.boxes ho4.ints).mono ?_
      rintro e w8 ⟨Ag, ng, cg, rfl, hog, hq8⟩
      clear p0 p1 p2 y3
      have hI := hI.below hq8
      have hZ := hZ.below hq8
      have hh := hh.below hq8
      have how := how.below hq8
      have ho3 := ho3.below hq8
      have ho4 := ho4.below hq8
      have hb8 := hb7.trans (hq8.mono hb7.size)
      have hs8 := hq8.size
      clear hb7 hq8
      rw [hR] at hog
      have hgl := hog.ints.length
      have hglo := hog.lo
      have hh0 := hh
      obtain ⟨y3, p0, p1, p2⟩ := hh0
      go_wp2_with (fail)
      refine (eqIntS_any _ _ _ _ _ _ _ _ _ hog.ints how.ints).mono ?_
      rintro e w9 ⟨rfl, hq9⟩
      clear p0 p1 p2 y3
      have hI := hI.below hq9
      have hZ := hZ.below hq9
      have hh := hh.below hq9
      have how := how.below hq9
      have ho3 := ho3.below hq9
      have ho4 := ho4.below hq9
      have hog := hog.below hq9
      have hb9 := hb8.trans (hq9.mono hb8.size)
      have hs9 := hq9.size
      clear hb8 hq9
      have hh0 := hh
      obtain ⟨y3, p0, p1, p2⟩ := hh0
      go_wp2_with (fail)
      refine (toBoxS_any _ _ _ _ _ hI (by omega)).mono ?_
      rintro e w10 ⟨g10, n10, rfl, hg10, ho5, hq10⟩
      clear p0 p1 p2 y3
      have hI := hI.below hq10
      have hZ := hZ.below hq10
      have hh := hh.below hq10
      have how := how.below hq10
      have ho3 := ho3.below hq10
      have ho4 := ho4.below hq10
      have hog := hog.below hq10
      have hb10 := hb9.trans (hq10.mono hb9.size)
      have hs10 := hq10.size
      clear hb9 hq10
      have ha1 := ho3.2.1
      have ha2 := ho5.2.1
      obtain rfl : n10 = n5 := by omega
      have hh0 := hh
      obtain ⟨y3, p0, p1, p2⟩ := hh0
      go_wp2_with (fail)
      refine (eqBoxS_same _ _ _ _ _ _ _ ho3.boxes ho5.boxes).mono ?_
      rintro e w11 ⟨rfl, hq11⟩
      clear p0 p1 p2 y3
      have hI := hI.below hq11
      have hZ := hZ.below hq11
      have hh := hh.below hq11
      have how := how.below hq11
      have ho3 := ho3.below hq11
      have ho4 := ho4.below hq11
      have hog := hog.below hq11
      have ho5 := ho5.below hq11
      have hb11 := hb10.trans (hq11.mono hb10.size)
      have hs11 := hq11.size
      clear hb10 hq11
      clear ho5
      have hh0 := hh
      obtain ⟨y3, p0, p1, p2⟩ := hh0
      go_wp2_with (fail)
      refine (toIntS_any _ _ _ _ _ hZ (by omega)).mono ?_
      rintro e w12 ⟨g12, n12, rfl, hg12, ho6, hq12⟩
      clear p0 p1 p2 y3
      have hI := hI.below hq12
      have hZ := hZ.below hq12
      have hh := hh.below hq12
      have how := how.below hq12
      have ho3 := ho3.below hq12
      have ho4 := ho4.below hq12
      have hog := hog.below hq12
      have hb12 := hb11.trans (hq12.mono hb11.size)
      have hs12 := hq12.size
      clear hb11 hq12
      have hh0 := hh
      obtain ⟨y3, p0, p1, p2⟩ := hh0
      go_wp2_with (fail)
      refine (eqIntS_any _ _ _ _ _ _ _ _ _ ho4.ints ho6.ints).mono ?_
      rintro e w13 ⟨rfl, hq13⟩
      clear p0 p1 p2 y3
      have hI := hI.below hq13
      have hZ := hZ.below hq13
      have hh := hh.below hq13
      have how := how.below hq13
      have ho3 := ho3.below hq13
      have ho4 := ho4.below hq13
      have hog := hog.below hq13
      have ho6 := ho6.below hq13
      have hb13 := hb12.trans (hq13.mono hb12.size)
      have hs13 := hq13.size
      clear hb12 hq13
      clear ho6
      have hl4 := ho4.length
      have hl3 := ho3.2.1
      have hh0 := hh
      obtain ⟨y3, p0, p1, p2⟩ := hh0
      go_wp2_with (fail)
      refine (markBoxS_any _ _ _ _ _ ho3 (by omega) (by omega) (by omega)).mono ?_
      rintro e w14 ⟨rfl, hq14⟩
      clear p0 p1 p2 y3
      have hh := hh.apart hq14 (by omega)
      have how := how.apart2 hq14 (fun k e => by have := hwhi k e; omega)
      have hog := hog.apart2 hq14 (fun k e => by have := hglo k e; omega)
      have ho4 := ho4.keep (hq14.block _ ho4.lt (fun e => by injection e with e; omega))
      have hb14 := below_apart hb13 hq14 (by omega) hb13.size
      have hI := H.out.below hb14
      have hZ := HZ.out.below hb14
      have hs14 := hq14.size
      clear hb13 hq14
      clear ho3
      have hh0 := hh
      obtain ⟨y3, p0, p1, p2⟩ := hh0
      go_wp2_with (fail)
      refine (markIntS_any _ _ _ _ _ _ ho4 (by omega) (by omega) (by omega)).mono ?_
      rintro e w15 ⟨rfl, hom, hq15⟩
      clear p0 p1 p2 y3
      have hh := hh.apart hq15 (by omega)
      have how := how.apart2 hq15 (fun k e => by have := hwhi k e; omega)
      have hog := hog.apart2 hq15 (fun k e => by have := hglo k e; omega)
      have hb15 := below_apart hb14 hq15 (by omega) hb14.size
      have hI := H.out.below hb15
      have hZ := HZ.out.below hb15
      have hs15 := hq15.size
      clear hb14 hq15
      clear ho4 hom
      have hk0 : ¬ (1 + 5 * (n10 : Int) + n6 < 0) := by omega
      have hk1 : (0 : Int) ≤ 1 + 5 * (n10 : Int) + n6 := by omega
      have hh0 := hh
      obtain ⟨y3, p0, p1, p2⟩ := hh0
      go_wp2_with (fail)
      refine (eqIntS_any _ _ _ _ _ _ _ _ _ hog.ints how.ints).mono ?_
      rintro e w16 ⟨rfl, hq16⟩
      clear p0 p1 p2 y3
      have hI := hI.below hq16
      have hZ := hZ.below hq16
      have hh := hh.below hq16
      have how := how.below hq16
      have hog := hog.below hq16
      have hb16 := hb15.trans (hq16.mono hb15.size)
      have hs16 := hq16.size
      clear hb15 hq16
      have hh0 := hh
      obtain ⟨y3, p0, p1, p2⟩ := hh0
      go_wp2_with (fail)
      refine (markOwn_any _ _ _ _ _ _ _ hog (by omega) (by omega) (by omega)).mono ?_
      rintro e w17 ⟨rfl, hom, hq17, _⟩
      clear p0 p1 p2 y3
      obtain ⟨gg, hq17, hgg, hgo⟩ := grown_opt hq17 hog
      have hh := hh.apart hq17 (by omega)
      have how := how.apart2 hq17 (fun k e => by have := hwhi k e; omega)
      have hb17 := below_apart hb16 hq17 (by omega) hb16.size
      have hI := H.out.below hb17
      have hZ := HZ.out.below hb17
      have hs17 := hq17.size
      clear hb16 hq17 hog hgo
      have hm0 : ¬ (1 + (ng : Int) < 0) := by omega
      have hm1 : (0 : Int) ≤ 1 + ng := by omega
      have hh0 := hh
      obtain ⟨y3, p0, p1, p2⟩ := hh0
      go_wp2_with (fail)
      refine (heldIntS_any _ _ _ _ _ hom.ints (by omega) (by omega) (by omega)).mono ?_
      rintro e w18 ⟨rfl, rfl⟩
      clear p0 p1 p2 y3
      have hh0 := hh
      obtain ⟨y3, p0, p1, p2⟩ := hh0
      go_wp2_with (fail)
      refine (toHull_any _ _ _ _).mono ?_
      rintro e w19 ⟨rfl, hq19⟩
      clear p0 p1 p2 y3
      have hI := hI.below hq19
      have hZ := hZ.below hq19
      have hh := hh.below hq19
      have how := how.below hq19
      have hom := hom.below hq19
      have hb19 := hb17.trans (hq19.mono hb17.size)
      have hs19 := hq19.size
      clear hb17 hq19
      have hh0 := hh
      obtain ⟨y3, p0, p1, p2⟩ := hh0
      go_wp2_with (fail)
      refine (toBoxS_any _ _ _ _ _ hI (by omega)).mono ?_
      rintro e w20 ⟨g20, n20, rfl, hg20, ho7, hq20⟩
      clear p0 p1 p2 y3
      have hI := hI.below hq20
      have hZ := hZ.below hq20
      have hh := hh.below hq20
      have how := how.below hq20
      have hom := hom.below hq20
      have hb20 := hb19.trans (hq20.mono hb19.size)
      have hs20 := hq20.size
      clear hb19 hq20
      have hh0 := hh
      obtain ⟨y3, p0, p1, p2⟩ := hh0
      go_wp2_with (fail)
      refine (toIntS_any _ _ _ _ _ hZ (by omega)).mono ?_
      rintro e w21 ⟨g21, n21, rfl, hg21, ho8, hq21⟩
      clear p0 p1 p2 y3
      have hI := hI.below hq21
      have hZ := hZ.below hq21
      have hh := hh.below hq21
      have how := how.below hq21
      have hom := hom.below hq21
      have ho7 := ho7.below hq21
      have hb21 := hb20.trans (hq21.mono hb20.size)
      have hs21 := hq21.size
      clear hb20 hq21
      have hh0 := hh
      obtain ⟨y3, p0, p1, p2⟩ := hh0
      go_wp2_with (fail)
      refine (implPlanNext_any _ _ _ _ _ _ _ _ _ _ _ _ ho7.boxes ho8.ints).mono ?_
      rintro e w22 ⟨Ah, nh, ch, rfl, hoh, hq22⟩
      clear p0 p1 p2 y3
      have hI := hI.below hq22
      have hZ := hZ.below hq22
      have hh := hh.below hq22
      have how := how.below hq22
      have hom := hom.below hq22
      have ho7 := ho7.below hq22
      have ho8 := ho8.below hq22
      have hb22 := hb21.trans (hq22.mono hb21.size)
      have hs22 := hq22.size
      clear hb21 hq22
      rw [hR] at hoh
      clear ho7 ho8
      have hh0 := hh
      obtain ⟨y3, p0, p1, p2⟩ := hh0
      go_wp2_with (fail)
      refine (eqIntS_any _ _ _ _ _ _ _ _ _ hoh.ints how.ints).mono ?_
      rintro e w23 ⟨rfl, hq23⟩
      clear p0 p1 p2 y3
      have hI := hI.below hq23
      have hZ := hZ.below hq23
      have hh := hh.below hq23
      have how := how.below hq23
      have hom := hom.below hq23
      have hoh := hoh.below hq23
      have hb23 := hb22.trans (hq23.mono hb22.size)
      have hs23 := hq23.size
      clear hb22 hq23
      have hh0 := hh
      obtain ⟨y3, p0, p1, p2⟩ := hh0
      go_wp2_with (fail)
      refine (heldIntS_any _ _ _ _ _ hom.ints (by omega) (by omega) (by omega)).mono ?_
      rintro e w24 ⟨rfl, rfl⟩
      clear p0 p1 p2 y3
      go_wp2_with (fail)
      go_ret
      exact ⟨rfl, hb23⟩
end Go.Proofs.Ytfdnikmmfnhmbaa
