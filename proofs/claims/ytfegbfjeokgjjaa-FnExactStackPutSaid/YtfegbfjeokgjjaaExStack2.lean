/- The walks of the laws FnExactStackPut and FnExactStackTake: each returns true and leaves the old memory alone. Conditions: that the slice reads as integers. (Printed by wip/genexstack.py.) -/
import Derived.Test.YtfegbfjeokgjjaaApp2
namespace Go.Proofs.Ytfegbfjeokgjjaa
open Go.RowKit
set_option linter.unusedVariables false

theorem putL_len (xs : List Int) (high id : Int) : (putL xs high id).length ≤ xs.length + 1 := by
  unfold putL; split <;> (try split) <;> simp
theorem takeL_len (xs : List Int) (high : Int) : (takeL xs high).length ≤ xs.length := by
  unfold takeL; split <;> simp <;> omega
/-- rows that lie in other blocks -/
theorem Own.apart {w w' : World} {B n c n' c' : Nat} {A A' : Option Addr} {xs : List Int} (h : Own w B A n c xs) (hg : w.grownBy w' (Value.slice A' n' c').ownBlock) (M : Nat) (h1 : ∀ g, A = some ⟨g, 0, none⟩ → g < M) (h2 : ∀ p, A' = some p → M ≤ p.block) : Own w' B A n c xs := by
  refine h.grown hg (fun g e e2 => ?_)
  cases A' with
  | none => cases e2
  | some a =>
    have hb : g = a.block := by simpa [Value.ownBlock] using e2
    have := h1 g e
    have := h2 a rfl
    omega
theorem Own.lt {w : World} {B n c : Nat} {A : Option Addr} {xs : List Int} (h : Own w B A n c xs) : ∀ g, A = some ⟨g, 0, none⟩ → g < w.heap.size := by
  intro g e
  rcases h with ⟨rfl, _⟩ | ⟨g1, rfl, h1, h2⟩
  · cases e
  · injection e with e
    injection e with e
    subst e
    exact h2.lt
theorem Own.ge {w : World} {B n c : Nat} {A : Option Addr} {xs : List Int} (h : Own w B A n c xs) : ∀ g, A = some ⟨g, 0, none⟩ → B ≤ g := by
  intro g e
  rcases h with ⟨rfl, _⟩ | ⟨g1, rfl, h1, h2⟩
  · cases e
  · injection e with e
    injection e with e
    subst e
    exact h1
theorem Own.ge' {w : World} {B n c : Nat} {A : Option Addr} {xs : List Int} (h : Own w B A n c xs) : ∀ p, A = some p → B ≤ p.block := by
  intro g e
  rcases h with ⟨rfl, _⟩ | ⟨g1, rfl, h1, h2⟩
  · cases e
  · injection e with e
    subst e
    exact h1
theorem below_grown_any {B g : Nat} {a b c : World} (hk : Below B a b) (h : b.grownBy c (some g)) (hg : B ≤ g) (hB : B ≤ a.heap.size) : Below B a c :=
  hk.trans ⟨h.os, h.tape, h.output, h.size, fun i hi => h.block i (by have := hk.size; omega) (fun e => by injection e with e; omega)⟩

set_option maxHeartbeats 1600000 in
theorem fnExactStackPut_walk (A : Option Addr) (n c : Nat) (zs : List Int) (high id : Int) (w : World) (h : IsRow .i64 w A n c zs) (wh : (Lit.int .i64 high).wf = true) (wi : (Lit.int .i64 id).wf = true) :
    Calls Try.prog 4 #[.slice A n c, .int .i64 high, .int .i64 id] w fun e w' => e = .returned (.bool true) ∧ Below w.heap.size w w' := by
  clear wh wi
  have hI := Ints.of_row h
  obtain ⟨xs, hxs⟩ : ∃ xs, zs.take n = xs := ⟨_, rfl⟩
  rw [hxs] at hI
  have hl := hI.length
  have H := Lib.hid hI
  clear h hI hxs
  by_cases hn : 1048576 < n
  · have hn' : (1048576 : Int) < n := by omega
    go_enter Try.func4, Try.ntmps4
    go_wp2_with (fail)
    go_ret
    exact ⟨rfl, (by repeat' (first | with_reducible exact Below.refl _ _ | with_reducible assumption | with_reducible refine bel_step (by with_reducible assumption) ?_ ?_ | with_reducible refine Below.drew ?_ | with_reducible refine below_drewN ?_ _ | with_reducible refine Below.alloc ?_ ?_ _ | with_reducible refine Below.setCell ?_ ?_ _ | (simp; done) | (simp; omega) | omega | with_reducible refine below_le (by with_reducible assumption) ?_))⟩
  · have hn' : (n : Int) ≤ 1048576 := by omega
    have hLn := putL_len xs high id
    rw [hl] at hLn
    have he := eqL_self (putL xs high id)
    have he' := eqL_self xs
    obtain ⟨R, hR⟩ : ∃ R, putL xs high id = R := ⟨_, rfl⟩
    rw [hR] at he hLn
    go_enter Try.func4, Try.ntmps4
    go_wp2_with (fail)
    refine (toIntS_any _ _ _ _ _ H.out (by omega)).mono ?_
    rintro e w1 ⟨g1, n1, rfl, hg1, ho1, hb1⟩
    have hl1 : n1 = n := by have := ho1.length; omega
    subst hl1
    go_wp2_with (fail)
    refine (specStackPut_any _ _ _ _ _ _ _ ho1.ints (by omega)).mono ?_
    rintro e w2 ⟨A2, n2, c2, rfl, ho2, hb2'⟩
    rw [hR] at ho2
    have hb2 := hb1.trans (hb2'.mono hb1.size)
    have hI2 := H.out.below hb2
    have hs2 := hb2.size
    clear hb1 hb2' ho1 hg1
    go_wp2_with (fail)
    refine (toIntS_any _ _ _ _ _ hI2 (by omega)).mono ?_
    rintro e w3 ⟨g3, n3, rfl, hg3, ho3, hb3'⟩
    have hl3 : n3 = n1 := by have := ho3.length; omega
    subst hl3
    have hlt2 := ho2.lt
    have ho2 := ho2.below hb3'
    have hb3 := hb2.trans (hb3'.mono hb2.size)
    have hs3 := hb3'.size
    clear hb2 hb3' hI2
    go_wp2_with (fail)
    refine (implStackPut_any _ _ _ _ _ _ _ ho3.ints (by omega)).mono ?_
    rintro e w4 ⟨A4, n4, c4, rfl, ho4, hb4'⟩
    rw [hR] at ho4
    have hl2 := ho2.ints.length
    have hl4 := ho4.ints.length
    have ho2 := ho2.below hb4'
    have hlt3 := ho3.lt
    have ho3 := ho3.below hb4'
    have hb4 := hb3.trans (hb4'.mono hb3.size)
    have hs4 := hb4'.size
    clear hb3 hb4'
    go_wp2_with (fail)
    refine (eqIntS_any _ _ _ _ _ _ _ _ _ ho4.ints ho2.ints).mono ?_
    rintro e w5 ⟨rfl, hb5'⟩
    have ho2 := ho2.below hb5'
    have ho3 := ho3.below hb5'
    have ho4 := ho4.below hb5'
    have hb5 := hb4.trans (hb5'.mono hb4.size)
    have hs5 := hb5'.size
    have hI5 := H.out.below hb5
    clear hb4 hb5'
    go_wp2_with (fail)
    refine (toIntS_any _ _ _ _ _ hI5 (by omega)).mono ?_
    rintro e w6 ⟨g6, n6, rfl, hg6, ho6, hb6'⟩
    have ho2 := ho2.below hb6'
    have ho3 := ho3.below hb6'
    have ho4 := ho4.below hb6'
    have hb6 := hb5.trans (hb6'.mono hb5.size)
    have hs6 := hb6'.size
    clear hb5 hb6' hI5
    go_wp2_with (fail)
    refine (eqIntS_any _ _ _ _ _ _ _ _ _ ho3.ints ho6.ints).mono ?_
    rintro e w7 ⟨rfl, hb7'⟩
    have ho2 := ho2.below hb7'
    have ho3 := ho3.below hb7'
    have ho4 := ho4.below hb7'
    have hb7 := hb6.trans (hb7'.mono hb6.size)
    have hs7 := hb7'.size
    clear hb6 hb7' ho6 hg6
    go_wp2_with (fail)
    refine (markIntS_any _ _ _ _ _ _ ho3 (by omega) (by omega) (by omega)).mono ?_
    rintro e w8 ⟨rfl, ho3', hg8⟩
    have ho2 := Own.apart (A' := some ⟨g3, 0, none⟩) (n' := n3) (c' := n3) ho2 hg8 w2.heap.size hlt2 (by intro p e; injection e with e; subst e; exact hg3)
    have ho4 := Own.grown (v := .slice (some ⟨g3, 0, none⟩) n3 n3) ho4 hg8 (fun g e e2 => by have := ho4.ge g e; simp [Value.ownBlock] at e2; omega)
    have hb8 := below_grown_any hb7 hg8 (by have := hb7.size; omega) (Nat.le_refl _)
    have hs8 := hg8.size
    clear hb7 ho3 ho3' hg8
    have hk0 : ¬ (1 + (n3 : Int) < 0) := by omega
    have hk1 : (0 : Int) ≤ 1 + n3 := by omega
    go_wp2_with (fail)
    refine (eqIntS_any _ _ _ _ _ _ _ _ _ ho4.ints ho2.ints).mono ?_
    rintro e w9 ⟨rfl, hb9'⟩
    have ho2 := ho2.below hb9'
    have ho4 := ho4.below hb9'
    have hb9 := hb8.trans (hb9'.mono hb8.size)
    have hs9 := hb9'.size
    clear hb8 hb9'
    go_wp2_with (fail)
    refine (markOwn_any _ _ _ _ _ _ _ ho4 (by omega) (by omega) (by omega)).mono ?_
    rintro e w10 ⟨rfl, ho10, hg10, hbb⟩
    have ho2 := Own.apart ho2 hg10 w3.heap.size (fun g e => Nat.lt_of_lt_of_le (hlt2 g e) hs3) ho4.ge'
    have hb10 := hb9.trans ((hbb (by omega)).mono (by have := hb9.size; omega))
    have hs10 := hg10.size
    clear hb9 hbb ho4 hg10
    have hm0 : ¬ (1 + (n4 : Int) < 0) := by omega
    have hm1 : (0 : Int) ≤ 1 + n4 := by omega
    go_wp2_with (fail)
    refine (heldIntS_any _ _ _ _ _ ho10.ints (by omega) (by omega) (by omega)).mono ?_
    rintro e w11 ⟨rfl, rfl⟩
    have hI11 := H.out.below hb10
    go_wp2_with (fail)
    refine (toIntS_any _ _ _ _ _ hI11 (by omega)).mono ?_
    rintro e w12 ⟨g12, n12, rfl, hg12, ho12, hb12'⟩
    have hl12 : n12 = n3 := by have := ho12.length; omega
    subst hl12
    have ho2 := ho2.below hb12'
    have ho10 := ho10.below hb12'
    have hb12 := hb10.trans (hb12'.mono hb10.size)
    clear hb10 hb12' hI11
    go_wp2_with (fail)
    refine (implStackPut_any _ _ _ _ _ _ _ ho12.ints (by omega)).mono ?_
    rintro e w13 ⟨A13, n13, c13, rfl, ho13, hb13'⟩
    rw [hR] at ho13
    have ho2 := ho2.below hb13'
    have ho10 := ho10.below hb13'
    have hb13 := hb12.trans (hb13'.mono hb12.size)
    clear hb12 hb13' ho12
    go_wp2_with (fail)
    refine (eqIntS_any _ _ _ _ _ _ _ _ _ ho13.ints ho2.ints).mono ?_
    rintro e w14 ⟨rfl, hb14'⟩
    have ho10 := ho10.below hb14'
    have hb14 := hb13.trans (hb14'.mono hb13.size)
    clear hb13 hb14'
    go_wp2_with (fail)
    refine (heldIntS_any _ _ _ _ _ ho10.ints (by omega) (by omega) (by omega)).mono ?_
    rintro e w15 ⟨rfl, rfl⟩
    go_wp2_with (fail)
    go_ret
    exact ⟨rfl, hb14⟩

set_option maxHeartbeats 1600000 in
theorem fnExactStackTake_walk (A : Option Addr) (n c : Nat) (zs : List Int) (high : Int) (w : World) (h : IsRow .i64 w A n c zs) (wh : (Lit.int .i64 high).wf = true) :
    Calls Try.prog 5 #[.slice A n c, .int .i64 high] w fun e w' => e = .returned (.bool true) ∧ Below w.heap.size w w' := by
  clear wh
  have hI := Ints.of_row h
  obtain ⟨xs, hxs⟩ : ∃ xs, zs.take n = xs := ⟨_, rfl⟩
  rw [hxs] at hI
  have hl := hI.length
  have H := Lib.hid hI
  clear h hI hxs
  by_cases hn : 1048576 < n
  · have hn' : (1048576 : Int) < n := by omega
    go_enter Try.func5, Try.ntmps5
    go_wp2_with (fail)
    go_ret
    exact ⟨rfl, (by repeat' (first | with_reducible exact Below.refl _ _ | with_reducible assumption | with_reducible refine bel_step (by with_reducible assumption) ?_ ?_ | with_reducible refine Below.drew ?_ | with_reducible refine below_drewN ?_ _ | with_reducible refine Below.alloc ?_ ?_ _ | with_reducible refine Below.setCell ?_ ?_ _ | (simp; done) | (simp; omega) | omega | with_reducible refine below_le (by with_reducible assumption) ?_))⟩
  · have hn' : (n : Int) ≤ 1048576 := by omega
    have hLn := takeL_len xs high
    rw [hl] at hLn
    have he := eqL_self (takeL xs high)
    have he' := eqL_self xs
    obtain ⟨R, hR⟩ : ∃ R, takeL xs high = R := ⟨_, rfl⟩
    rw [hR] at he hLn
    go_enter Try.func5, Try.ntmps5
    go_wp2_with (fail)
    refine (toIntS_any _ _ _ _ _ H.out (by omega)).mono ?_
    rintro e w1 ⟨g1, n1, rfl, hg1, ho1, hb1⟩
    have hl1 : n1 = n := by have := ho1.length; omega
    subst hl1
    go_wp2_with (fail)
    refine (specStackTake_any _ _ _ _ _ _ ho1.ints (by omega)).mono ?_
    rintro e w2 ⟨A2, n2, c2, rfl, ho2, hb2'⟩
    rw [hR] at ho2
    have hb2 := hb1.trans (hb2'.mono hb1.size)
    have hI2 := H.out.below hb2
    have hs2 := hb2.size
    clear hb1 hb2' ho1 hg1
    go_wp2_with (fail)
    refine (toIntS_any _ _ _ _ _ hI2 (by omega)).mono ?_
    rintro e w3 ⟨g3, n3, rfl, hg3, ho3, hb3'⟩
    have hl3 : n3 = n1 := by have := ho3.length; omega
    subst hl3
    have hlt2 := ho2.lt
    have ho2 := ho2.below hb3'
    have hb3 := hb2.trans (hb3'.mono hb2.size)
    have hs3 := hb3'.size
    clear hb2 hb3' hI2
    go_wp2_with (fail)
    refine (implStackTake_any _ _ _ _ _ _ ho3.ints (by omega)).mono ?_
    rintro e w4 ⟨A4, n4, c4, rfl, ho4, hb4'⟩
    rw [hR] at ho4
    have hl2 := ho2.ints.length
    have hl4 := ho4.ints.length
    have ho2 := ho2.below hb4'
    have hlt3 := ho3.lt
    have ho3 := ho3.below hb4'
    have hb4 := hb3.trans (hb4'.mono hb3.size)
    have hs4 := hb4'.size
    clear hb3 hb4'
    go_wp2_with (fail)
    refine (eqIntS_any _ _ _ _ _ _ _ _ _ ho4.ints ho2.ints).mono ?_
    rintro e w5 ⟨rfl, hb5'⟩
    have ho2 := ho2.below hb5'
    have ho3 := ho3.below hb5'
    have ho4 := ho4.below hb5'
    have hb5 := hb4.trans (hb5'.mono hb4.size)
    have hs5 := hb5'.size
    have hI5 := H.out.below hb5
    clear hb4 hb5'
    go_wp2_with (fail)
    refine (toIntS_any _ _ _ _ _ hI5 (by omega)).mono ?_
    rintro e w6 ⟨g6, n6, rfl, hg6, ho6, hb6'⟩
    have ho2 := ho2.below hb6'
    have ho3 := ho3.below hb6'
    have ho4 := ho4.below hb6'
    have hb6 := hb5.trans (hb6'.mono hb5.size)
    have hs6 := hb6'.size
    clear hb5 hb6' hI5
    go_wp2_with (fail)
    refine (eqIntS_any _ _ _ _ _ _ _ _ _ ho3.ints ho6.ints).mono ?_
    rintro e w7 ⟨rfl, hb7'⟩
    have ho2 := ho2.below hb7'
    have ho3 := ho3.below hb7'
    have ho4 := ho4.below hb7'
    have hb7 := hb6.trans (hb7'.mono hb6.size)
    have hs7 := hb7'.size
    clear hb6 hb7' ho6 hg6
    go_wp2_with (fail)
    refine (markIntS_any _ _ _ _ _ _ ho3 (by omega) (by omega) (by omega)).mono ?_
    rintro e w8 ⟨rfl, ho3', hg8⟩
    have ho2 := Own.apart (A' := some ⟨g3, 0, none⟩) (n' := n3) (c' := n3) ho2 hg8 w2.heap.size hlt2 (by intro p e; injection e with e; subst e; exact hg3)
    have ho4 := Own.grown (v := .slice (some ⟨g3, 0, none⟩) n3 n3) ho4 hg8 (fun g e e2 => by have := ho4.ge g e; simp [Value.ownBlock] at e2; omega)
    have hb8 := below_grown_any hb7 hg8 (by have := hb7.size; omega) (Nat.le_refl _)
    have hs8 := hg8.size
    clear hb7 ho3 ho3' hg8
    have hk0 : ¬ (1 + (n3 : Int) < 0) := by omega
    have hk1 : (0 : Int) ≤ 1 + n3 := by omega
    go_wp2_with (fail)
    refine (eqIntS_any _ _ _ _ _ _ _ _ _ ho4.ints ho2.ints).mono ?_
    rintro e w9 ⟨rfl, hb9'⟩
    have ho2 := ho2.below hb9'
    have ho4 := ho4.below hb9'
    have hb9 := hb8.trans (hb9'.mono hb8.size)
    have hs9 := hb9'.size
    clear hb8 hb9'
    go_wp2_with (fail)
    refine (markOwn_any _ _ _ _ _ _ _ ho4 (by omega) (by omega) (by omega)).mono ?_
    rintro e w10 ⟨rfl, ho10, hg10, hbb⟩
    have ho2 := Own.apart ho2 hg10 w3.heap.size (fun g e => Nat.lt_of_lt_of_le (hlt2 g e) hs3) ho4.ge'
    have hb10 := hb9.trans ((hbb (by omega)).mono (by have := hb9.size; omega))
    have hs10 := hg10.size
    clear hb9 hbb ho4 hg10
    have hm0 : ¬ (1 + (n4 : Int) < 0) := by omega
    have hm1 : (0 : Int) ≤ 1 + n4 := by omega
    go_wp2_with (fail)
    refine (heldIntS_any _ _ _ _ _ ho10.ints (by omega) (by omega) (by omega)).mono ?_
    rintro e w11 ⟨rfl, rfl⟩
    have hI11 := H.out.below hb10
    go_wp2_with (fail)
    refine (toIntS_any _ _ _ _ _ hI11 (by omega)).mono ?_
    rintro e w12 ⟨g12, n12, rfl, hg12, ho12, hb12'⟩
    have hl12 : n12 = n3 := by have := ho12.length; omega
    subst hl12
    have ho2 := ho2.below hb12'
    have ho10 := ho10.below hb12'
    have hb12 := hb10.trans (hb12'.mono hb10.size)
    clear hb10 hb12' hI11
    go_wp2_with (fail)
    refine (implStackTake_any _ _ _ _ _ _ ho12.ints (by omega)).mono ?_
    rintro e w13 ⟨A13, n13, c13, rfl, ho13, hb13'⟩
    rw [hR] at ho13
    have ho2 := ho2.below hb13'
    have ho10 := ho10.below hb13'
    have hb13 := hb12.trans (hb13'.mono hb12.size)
    clear hb12 hb13' ho12
    go_wp2_with (fail)
    refine (eqIntS_any _ _ _ _ _ _ _ _ _ ho13.ints ho2.ints).mono ?_
    rintro e w14 ⟨rfl, hb14'⟩
    have ho10 := ho10.below hb14'
    have hb14 := hb13.trans (hb14'.mono hb13.size)
    clear hb13 hb14'
    go_wp2_with (fail)
    refine (heldIntS_any _ _ _ _ _ ho10.ints (by omega) (by omega) (by omega)).mono ?_
    rintro e w15 ⟨rfl, rfl⟩
    go_wp2_with (fail)
    go_ret
    exact ⟨rfl, hb14⟩
end Go.Proofs.Ytfegbfjeokgjjaa
