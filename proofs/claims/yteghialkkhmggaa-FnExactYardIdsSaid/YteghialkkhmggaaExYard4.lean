/- The walk of the law FnExactYardIds: it returns true and leaves the old memory alone. Conditions: that the slices read as lists. -/
import Derived.Test.YteghialkkhmggaaYardIds
import Derived.Test.YteghialkkhmggaaMarkSS
namespace Go.Proofs.Yteghialkkhmggaa
open Go.RowKit
set_option linter.unusedVariables false

theorem Own.lo' {w : World} {B n c : Nat} {A : Option Addr} {xs : List Int} (h : Own w B A n c xs) : ∀ g, A = some ⟨g, 0, none⟩ → B ≤ g := by
  intro g e
  rcases h with ⟨rfl, _⟩ | ⟨g', e', hg, _⟩
  · cases e
  · rw [e] at e'
    injection e' with e'
    injection e' with e'
    omega
theorem Own.hi' {w : World} {B n c : Nat} {A : Option Addr} {xs : List Int} (h : Own w B A n c xs) : ∀ g, A = some ⟨g, 0, none⟩ → g < w.heap.size := by
  intro g e
  rcases h with ⟨rfl, _⟩ | ⟨g', e', hg, ho⟩
  · cases e
  · rw [e] at e'
    injection e' with e'
    injection e' with e'
    subst e'
    exact ho.lt
theorem ids_25 (hi : Int) (sss : List (List Int)) : (idsV hi sss).length ≤ 25 := by
  unfold idsV
  split
  · rename_i h
    rw [sortL_length]
    exact yard_25 h
  · simp

set_option maxHeartbeats 6400000 in
theorem fnExactYardIds_walk (hi : Int) (A : Option Addr) (n c : Nat) (sss : List (List Int)) (w : World) (wh : (Lit.int .i64 hi).wf = true) (h : IsStk w A n c sss) :
    Calls Try.prog 5 #[.agg #[.int .i64 hi, .slice A n c]] w fun e w' => e = .returned (.bool true) ∧ Below w.heap.size w w' := by
  clear wh
  have H := Lib.hid h
  clear h
  go_enter Try.func5, Try.ntmps5
  go_wp2_with (fail)
  refine (szYard_any _ _ _ _ _ _ _ (H.out.alloc _) (by omega) (by omega)).mono ?_
  rintro e w0 ⟨v0, rfl, hv, hb0⟩
  have hq0 : Below w.heap.size w w0 := ((Below.refl _ _).alloc (Nat.le_refl _) _).trans (hb0.mono (by simp))
  rcases hv with hv | ⟨hv0, hv1, hn1, hs1⟩
  · go_wp2_with (fail)
    go_ret
    exact ⟨rfl, hq0⟩
  · have Hs1 := Lib.hid hs1
    have hI := H.out.below hq0
    have hh : Yd w0 w.heap.size hi A n c := Yd.below (w := w.alloc _) ⟨by simp, by go_simp, by go_simp⟩ hb0
    clear hs1 hb0
    obtain ⟨R, hR⟩ : ∃ R, idsV hi sss = R := ⟨_, rfl⟩
    have h25 := ids_25 hi sss
    rw [hR] at h25
    have HR := Lib.hid hR
    clear hR
    -- the reference's ids
    obtain ⟨y3, p0, p1⟩ := id hh
    go_wp2_with (fail)
    refine (toYard_any _ _ _ _ _ _ hI hn1 Hs1.out).mono ?_
    rintro e w1 ⟨g1, n1, rfl, hg1, ho1, hl1, hq1⟩
    clear p0 p1 y3
    have hI := hI.below hq1
    have hh := hh.below hq1
    have hb1 := hq0.trans (hq1.mono hq0.size)
    clear hq0 hq1
    have hm1 : n1 ≤ 1048576 := by have := hI.length; omega
    obtain ⟨y3, p0, p1⟩ := id hh
    go_wp2_with (fail)
    refine (specYardIds_any _ _ _ _ _ _ (ho1.stk hl1) hm1).mono ?_
    rintro e w2 ⟨v2, rfl, hr2, hq2⟩
    rw [HR.out] at hr2
    obtain ⟨Aw, cw, rfl, how⟩ := hr2.own
    clear p0 p1 y3 hr2 ho1
    have hI := hI.below hq2
    have hh := hh.below hq2
    have hb2 := hb1.trans (hq2.mono hb1.size)
    have hwhi := how.hi'
    have hlt2 : w.heap.size < w2.heap.size := hh.1
    have hwl := how.ints.length
    have hs2w := hb2.size
    clear hb1 hq2
    -- the argument
    obtain ⟨y3, p0, p1⟩ := id hh
    go_wp2_with (fail)
    refine (toYard_any _ _ _ _ _ _ hI hn1 Hs1.out).mono ?_
    rintro e w3 ⟨g3, n3, rfl, hg3, ho3, hl3, hq3⟩
    clear p0 p1 y3
    have hmk := RowsSS.of_made ho3 (by have := hI.length; intro j hj; exact Hs1.out j (by omega))
    have hI := hI.below hq3
    have hh := hh.below hq3
    have how := how.below hq3
    have hb3 := hb2.trans (hq3.mono hb2.size)
    have hs3 := hq3.size
    clear hb2 hq3
    have hz3 : Below w3.heap.size w3 (w3.alloc (.cells #[.int .i64 hi, .slice (some ⟨g3, 0, none⟩) n3 n3] 27)) := (Below.refl _ _).alloc (Nat.le_refl _) _
    have hI := hI.below hz3
    have hh := hh.below hz3
    have ho3 := ho3.below hz3
    have how := how.below hz3
    have hmk := hmk.below hz3
    have hx : Yd (w3.alloc (.cells #[.int .i64 hi, .slice (some ⟨g3, 0, none⟩) n3 n3] 27)) w3.heap.size hi (some ⟨g3, 0, none⟩) n3 n3 := ⟨by simp, by go_simp, by go_simp⟩
    have hc3 := hb3.trans (hz3.mono hb3.size)
    have hs4 := hz3.size
    clear hb3 hz3
    obtain ⟨y3, p0, p1⟩ := id hh
    obtain ⟨y4, q0, q1⟩ := id hx
    -- the program's ids
    go_wp2_with (fail)
    refine (implYardIds_any _ _ _ _ _ _ (ho3.stk hl3)).mono ?_
    rintro e w4 ⟨v4, rfl, hr4, hq4⟩
    rw [HR.out] at hr4
    obtain ⟨Ag, cg, rfl, hog⟩ := hr4.own
    clear p0 p1 y3 q0 q1 y4 hr4
    have hI := hI.below hq4
    have hh := hh.below hq4
    have ho3 := ho3.below hq4
    have how := how.below hq4
    have hmk := hmk.below hq4
    have hx := hx.below hq4
    have hb4 := hc3.trans (hq4.mono hc3.size)
    have hs5 := hq4.size
    have hglo := hog.lo'
    clear hc3 hq4
    have he := eqL_self R
    obtain ⟨y3, p0, p1⟩ := id hh
    obtain ⟨y4, q0, q1⟩ := id hx
    go_wp2_with (fail)
    refine (eqIntS_any _ _ _ _ _ _ _ _ _ hog.ints how.ints).mono ?_
    rintro e w5 ⟨rfl, hq5⟩
    rw [he]
    clear p0 p1 y3 q0 q1 y4
    have hI := hI.below hq5
    have hh := hh.below hq5
    have ho3 := ho3.below hq5
    have how := how.below hq5
    have hog := hog.below hq5
    have hmk := hmk.below hq5
    have hx := hx.below hq5
    have hb5 := hb4.trans (hq5.mono hb4.size)
    have hs6 := hq5.size
    clear hb4 hq5
    -- the argument is as it was
    have hstx := ho3.stk hl3
    have hsx : IsStk w5.drew (some ⟨g3, 0, none⟩) n3 n3 sss := hstx
    have hIx : IsStk w5.drew A n c sss := hI
    have hbx : Below w.heap.size w w5.drew := hb5.drew
    have hsz := hbx.size
    have Hsx := Lib.hid hsx
    have HIx := Lib.hid hIx
    have Hog := Lib.hid hog
    have How := Lib.hid how
    have Hmk := Lib.hid hmk
    have Hh := Lib.hid hh
    have Hx := Lib.hid hx
    have Hglo := Lib.hid hglo
    have Hwhi := Lib.hid hwhi
    obtain ⟨y3, p0, p1⟩ := id hh
    obtain ⟨y4, q0, q1⟩ := id hx
    clear hog how hmk hh hx hglo hwhi he hI hstx hsx hIx ho3
    go_wp2_with (fail)
    go_region_held3 (fun w' => w'.cell? ⟨w.heap.size, 0, none⟩ = some (.int .i64 hi) ∧ w'.cell? ⟨w.heap.size, 1, none⟩ = some (.slice A n c) ∧ w'.cell? ⟨w3.heap.size, 0, none⟩ = some (.int .i64 hi) ∧ w'.cell? ⟨w3.heap.size, 1, none⟩ = some (.slice (some ⟨g3, 0, none⟩) n3 n3)) (first | (go_keep; done) | exact ⟨e0, e1, e2, e3⟩ | exact ⟨f0, f1, f2, f3⟩)
      (first
        | (go_at_call 16; refine (eqYard_same _ _ _ _ _ _ _ _ hsv (ho5.stk hl5)).mono ?_; rintro e v2 ⟨rfl, hv2⟩
           have hv3 := Below.trans hv1 (hv2.mono hv1.size)
           have f0 := (hv3.cell (p := ⟨w.heap.size, 0, none⟩) y3).trans p0; have f1 := (hv3.cell (p := ⟨w.heap.size, 1, none⟩) y3).trans p1; have f2 := (hv3.cell (p := ⟨w3.heap.size, 0, none⟩) y4).trans q0; have f3 := (hv3.cell (p := ⟨w3.heap.size, 1, none⟩) y4).trans q1)
        | (go_at_call 14; refine (toYard_any _ _ _ _ _ _ HIx.out hn1 Hs1.out).mono ?_; rintro e v1 ⟨g5, n5, rfl, hg5, ho5, hl5, hv1⟩
           obtain rfl : n5 = n3 := by omega
           have hsv := Hsx.out.below hv1
           have e0 := (hv1.cell (p := ⟨w.heap.size, 0, none⟩) y3).trans p0; have e1 := (hv1.cell (p := ⟨w.heap.size, 1, none⟩) y3).trans p1; have e2 := (hv1.cell (p := ⟨w3.heap.size, 0, none⟩) y4).trans q0; have e3 := (hv1.cell (p := ⟨w3.heap.size, 1, none⟩) y4).trans q1))
    have hv4 : Below w5.heap.size w5 v2 := (Below.drew (Below.refl _ _)).trans hv3
    clear hv1 hv2 hv3 ho5 hsv p0 p1 y3 q0 q1 y4 e0 e1 e2 e3 f0 f1 f2 f3 hbx hsz
    have hb6 := hb5.trans (hv4.mono hb5.size)
    have hh := Hh.out.below hv4
    have hx := Hx.out.below hv4
    have how := How.out.below hv4
    have hog := Hog.out.below hv4
    have hmk := Hmk.out.below hv4
    have hs7 := hv4.size
    have hs8 := hb6.size
    clear hv4 hb5 Hh Hx How Hog Hmk Hsx HIx
    obtain ⟨y3, p0, p1⟩ := id hh
    obtain ⟨y4, q0, q1⟩ := id hx
    -- the argument is marked
    go_wp2_with (fail)
    refine (markYard_any g3 _ w2.heap.size w3.heap.size hi _ hmk (by omega) hg3).mono ?_
    rintro e w6 ⟨K, rfl, hK, hm6⟩
    clear p0 p1 y3 q0 q1 y4 hmk
    have hh := hh.mid hm6 (by omega)
    have how := how.mid hm6 (fun g e => .inl (Hwhi.out g e))
    have hog := hog.mid hm6 (fun g e => .inr (by have := Hglo.out g e; omega))
    have hb7 := hb6.trans (hm6.1.mono (by omega))
    have hs9 := hb7.size
    have hs12 := hm6.1.size
    have hK' : ¬ K < 0 := by omega
    have he := eqL_self R
    clear hm6 hx hb6
    obtain ⟨y3, p0, p1⟩ := id hh
    go_wp2_with (fail)
    refine (eqIntS_any _ _ _ _ _ _ _ _ _ hog.ints how.ints).mono ?_
    rintro e w7 ⟨rfl, hq7⟩
    rw [he]
    clear p0 p1 y3 he
    have hh := hh.below hq7
    have how := how.below hq7
    have hog := hog.below hq7
    have hb8 := hb7.trans (hq7.mono hs9)
    have hs10 := hb8.size
    have hs13 := hq7.size
    clear hq7 hb7
    obtain ⟨y3, p0, p1⟩ := id hh
    -- the result is marked
    go_wp2_with (fail)
    refine (markOwn_any _ _ _ _ _ _ _ hog (by omega) (by omega) (by omega)).mono ?_
    rintro e w8 ⟨rfl, hom, hg8, hb8'⟩
    clear p0 p1 y3
    have hwl' := Hwhi.out
    have hgl' := Hglo.out
    have hbk : (Value.slice Ag R.length cg).ownBlock = none ∨ ∃ g, (Value.slice Ag R.length cg).ownBlock = some g ∧ w3.heap.size ≤ g := by
      rcases hog with ⟨rfl, _⟩ | ⟨g, rfl, hg, _⟩
      · exact .inl rfl
      · exact .inr ⟨g, rfl, by omega⟩
    have how := how.grown hg8 (fun g e e2 => by
      have h1 := hwl' g e
      rcases hbk with h | ⟨k, h, h2⟩
      · rw [h] at e2; cases e2
      · rw [h] at e2
        injection e2 with e2
        omega)
    have hm8 : Below w3.heap.size w7 w8 := by
      rcases hbk with h | ⟨k, h, h2⟩
      · rw [h] at hg8
        exact ⟨hg8.os, hg8.tape, hg8.output, hg8.size, fun i hi => hg8.block i (by omega) (by simp)⟩
      · rw [h] at hg8
        exact ⟨hg8.os, hg8.tape, hg8.output, hg8.size, fun i hi => hg8.block i (by omega) (fun e => by injection e with e; omega)⟩
    have hh : Yd w8 w.heap.size hi A n c := by
      obtain ⟨z3, r0, r1⟩ := hh
      exact ⟨Nat.lt_of_lt_of_le z3 hg8.size, (hm8.cell (p := ⟨w.heap.size, 0, none⟩) (show w.heap.size < w3.heap.size by omega)).trans r0, (hm8.cell (p := ⟨w.heap.size, 1, none⟩) (show w.heap.size < w3.heap.size by omega)).trans r1⟩
    have hb9 := hb8.trans (hm8.mono (by omega))
    have hs11 := hb9.size
    clear hg8 hb8' hm8 hbk hog hb8 hwl' hgl'
    have hm0 : ¬ ((1 : Int) + (R.length : Int) < 0) := by omega
    have hm1 : (0 : Int) ≤ (1 : Int) + (R.length : Int) := by omega
    obtain ⟨y3, p0, p1⟩ := id hh
    go_wp2_with (fail)
    refine (heldIntS_any _ _ _ _ _ hom.ints (by omega) (by omega) (by omega)).mono ?_
    rintro e w9 ⟨rfl, rfl⟩
    clear p0 p1 y3
    have hI := H.out.below hb9
    obtain ⟨y3, p0, p1⟩ := id hh
    -- once more
    go_wp2_with (fail)
    refine (toYard_any _ _ _ _ _ _ hI hn1 Hs1.out).mono ?_
    rintro e w10 ⟨g10, n10, rfl, hg10, ho10, hl10, hq10⟩
    clear p0 p1 y3
    have hh := hh.below hq10
    have how := how.below hq10
    have hom := hom.below hq10
    have hb10 := hb9.trans (hq10.mono hb9.size)
    clear hb9 hq10 hI
    go_wp2_with (fail)
    refine (implYardIds_any _ _ _ _ _ _ (ho10.stk hl10)).mono ?_
    rintro e w11 ⟨v11, rfl, hr11, hq11⟩
    rw [HR.out] at hr11
    obtain ⟨Ah, ch, rfl, hoh⟩ := hr11.own
    have how := how.below hq11
    have hom := hom.below hq11
    have hb11 := hb10.trans (hq11.mono hb10.size)
    clear hb10 hq11 hr11 ho10 hh
    have he := eqL_self R
    go_wp2_with (fail)
    refine (eqIntS_any _ _ _ _ _ _ _ _ _ hoh.ints how.ints).mono ?_
    rintro e w12 ⟨rfl, hq12⟩
    rw [he]
    have hom := hom.below hq12
    have hb12 := hb11.trans (hq12.mono hb11.size)
    clear hb11 hq12 how hoh he
    go_wp2_with (fail)
    refine (heldIntS_any _ _ _ _ _ hom.ints (by omega) (by omega) (by omega)).mono ?_
    rintro e w13 ⟨rfl, rfl⟩
    clear hom
    go_wp2_with (fail)
    go_ret
    exact ⟨rfl, hb12⟩
end Go.Proofs.Yteghialkkhmggaa
