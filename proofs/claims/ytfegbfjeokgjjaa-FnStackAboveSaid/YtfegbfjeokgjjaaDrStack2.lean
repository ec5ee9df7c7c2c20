/- The drawers of the stack laws. Conditions: that the code reads as bytes. (Printed by wip/gendrstack.py.) -/
import Derived.Test.YtfegbfjeokgjjaaDrStack
import Derived.Deep.RegionHeld3
import Derived.Deep.QuietTactic
import Derived.BigQuiet
namespace Go.Proofs.Ytfegbfjeokgjjaa
open Go.RowKit
set_option linter.unusedVariables false

def DrawSH (w : World) (e : Ending) (w' : World) : Prop :=
  ∃ A n c xs, ∃ high : Int, e = .returned (.tuple #[.slice A n c, .int .i64 high]) ∧ Own w' w.heap.size A n c xs ∧ n ≤ 12 ∧ Below w.heap.size w w'
def DrawSHI (w : World) (e : Ending) (w' : World) : Prop :=
  ∃ A n c xs, ∃ high id : Int, e = .returned (.tuple #[.slice A n c, .int .i64 high, .int .i64 id]) ∧ Own w' w.heap.size A n c xs ∧ n ≤ 12 ∧ Below w.heap.size w w'
theorem Own.pick {w w' : World} {B n c g : Nat} {A : Option Addr} {xs : List Int} (h : Own w B A n c xs) (hg : w.grownBy w' (some g)) (hB : g < B) : Own w' B A n c xs := by
  rcases h with e | ⟨g1, e, h1, h2⟩
  · exact .inl e
  · exact .inr ⟨g1, e, h1, h2.grown hg (by omega)⟩

set_option maxHeartbeats 800000 in
theorem drawStackValid_any (A : Option Addr) (n c : Nat) (zs : List Int) (w : World) (h : IsRow .u8 w A n c zs) :
    Calls Try.prog 23 #[.slice A n c] w (DrawSH w) := by
  have H := Lib.hid h
  clear h
  go_enter Try.func23, Try.ntmps23
  go_wp2_with (fail)
  refine (l20Open_any _ _ _ _ _ H.out).mono ?_
  rintro e w1 ⟨g, rfl, hr1, hb1⟩
  have hge := hr1.ge
  have hs1 := hb1.size
  go_wp2_with (fail)
  refine (l20High_any _ _ _ _ _ hr1 (by omega) (by omega)).mono ?_
  rintro e w2 ⟨high, rfl, hr2, hg2⟩
  have hb2 := below_grown_step hg2 hb1 hge hs1
  have hs2 := hb2.size
  have hl2 := hr2.lt
  clear hr1 hg2 hb1
  go_wp2_with (fail)
  refine (l20Stack_any _ _ _ _ _ _ hr2 (by omega) (by omega) (by omega) (by omega)).mono ?_
  rintro e w3 ⟨A1, n1, c1, xs, rfl, ho, hn, hr3, hg3⟩
  have hb3 := below_grown_step hg3 hb2 hge hs2
  have hs3 := hb3.size
  clear hg3 hb2 hr2
  go_wp2_with (fail)
  go_ret2
  exact ⟨A1, n1, c1, xs, high, rfl, ho.less hs2, hn, hb3⟩

set_option maxHeartbeats 800000 in
theorem drawStackTake_any (A : Option Addr) (n c : Nat) (zs : List Int) (w : World) (h : IsRow .u8 w A n c zs) :
    Calls Try.prog 27 #[.slice A n c] w (DrawSH w) := by
  have H := Lib.hid h
  clear h
  go_enter Try.func27, Try.ntmps27
  go_wp2_with (fail)
  refine (l20Open_any _ _ _ _ _ H.out).mono ?_
  rintro e w1 ⟨g, rfl, hr1, hb1⟩
  have hge := hr1.ge
  have hs1 := hb1.size
  go_wp2_with (fail)
  refine (l20High_any _ _ _ _ _ hr1 (by omega) (by omega)).mono ?_
  rintro e w2 ⟨high, rfl, hr2, hg2⟩
  have hb2 := below_grown_step hg2 hb1 hge hs1
  have hs2 := hb2.size
  have hl2 := hr2.lt
  clear hr1 hg2 hb1
  go_wp2_with (fail)
  refine (l20Stack_any _ _ _ _ _ _ hr2 (by omega) (by omega) (by omega) (by omega)).mono ?_
  rintro e w3 ⟨A1, n1, c1, xs, rfl, ho, hn, hr3, hg3⟩
  have hb3 := below_grown_step hg3 hb2 hge hs2
  have hs3 := hb3.size
  clear hg3 hb2 hr2
  go_wp2_with (fail)
  go_ret2
  exact ⟨A1, n1, c1, xs, high, rfl, ho.less hs2, hn, hb3⟩

set_option maxHeartbeats 800000 in
theorem drawStackPut_any (A : Option Addr) (n c : Nat) (zs : List Int) (w : World) (h : IsRow .u8 w A n c zs) :
    Calls Try.prog 25 #[.slice A n c] w (DrawSHI w) := by
  have H := Lib.hid h
  clear h
  go_enter Try.func25, Try.ntmps25
  go_wp2_with (fail)
  refine (l20Open_any _ _ _ _ _ H.out).mono ?_
  rintro e w1 ⟨g, rfl, hr1, hb1⟩
  have hge := hr1.ge
  have hs1 := hb1.size
  go_wp2_with (fail)
  refine (l20High_any _ _ _ _ _ hr1 (by omega) (by omega)).mono ?_
  rintro e w2 ⟨high, rfl, hr2, hg2⟩
  have hb2 := below_grown_step hg2 hb1 hge hs1
  have hs2 := hb2.size
  have hl2 := hr2.lt
  clear hr1 hg2 hb1
  go_wp2_with (fail)
  refine (l20Stack_any _ _ _ _ _ _ hr2 (by omega) (by omega) (by omega) (by omega)).mono ?_
  rintro e w3 ⟨A1, n1, c1, xs, rfl, ho, hn, hr3, hg3⟩
  have hb3 := below_grown_step hg3 hb2 hge hs2
  have hs3 := hb3.size
  clear hg3 hb2 hr2
  by_cases hn0 : n1 = 0
  · subst hn0
    go_wp2_with (fail)
    refine (pick_any _ _ _ _ _ (by repeat' (first | with_reducible assumption | with_reducible apply RdOk.alloc | with_reducible apply RdOk.drew | with_reducible apply RdOk.drewN | with_reducible apply RdOk.setCell | (simp; done) | (simp; omega) | omega)) (by omega)).mono ?_; rintro e w4 ⟨x4, rfl, hx4, hy4, hr4, hg4⟩; obtain ⟨hc4, hf4⟩ := gcell hg4; have z4 := hg4.size; (try simp at z4); have hl4 := hr4.lt; (have hn4 : ¬ w4.heap.size = g := by omega)
    have ho := ho.pick hg4 hl2
    have hb4 := below_grown_step hg4 hb3 hge hs3
    have hs4 := hb4.size
    clear hg4 hc4 hf4
    go_wp2_with (fail)
    refine (pick_any _ _ _ _ _ (by repeat' (first | with_reducible assumption | with_reducible apply RdOk.alloc | with_reducible apply RdOk.drew | with_reducible apply RdOk.drewN | with_reducible apply RdOk.setCell | (simp; done) | (simp; omega) | omega)) (by omega)).mono ?_; rintro e w5 ⟨x5, rfl, hx5, hy5, hr5, hg5⟩; obtain ⟨hc5, hf5⟩ := gcell hg5; have z5 := hg5.size; (try simp at z5); have hl5 := hr5.lt; (have hn5 : ¬ w5.heap.size = g := by omega)
    have ho := ho.pick hg5 hl2
    have hb5 := below_grown_step hg5 hb4 hge hs4
    have hs5 := hb5.size
    clear hg5 hc5 hf5
    go_wp2_with (fail)
    go_ret3
    exact ⟨_, _, _, xs, high, _, rfl, ho.less hs2, hn, hb5⟩
  · have hn1 : (0 : Int) < n1 := by omega
    go_wp2_with (fail)
    refine (pick_any _ _ _ _ _ (by repeat' (first | with_reducible assumption | with_reducible apply RdOk.alloc | with_reducible apply RdOk.drew | with_reducible apply RdOk.drewN | with_reducible apply RdOk.setCell | (simp; done) | (simp; omega) | omega)) (by omega)).mono ?_; rintro e w4 ⟨x4, rfl, hx4, hy4, hr4, hg4⟩; obtain ⟨hc4, hf4⟩ := gcell hg4; have z4 := hg4.size; (try simp at z4); have hl4 := hr4.lt; (have hn4 : ¬ w4.heap.size = g := by omega)
    have ho := ho.pick hg4 hl2
    have hb4 := below_grown_step hg4 hb3 hge hs3
    have hs4 := hb4.size
    clear hg4 hc4 hf4
    by_cases hx0 : x4 = 0
    · subst hx0
      rcases ho with ⟨_, e, _⟩ | ⟨g1, rfl, hg1, ho1⟩
      · exact absurd e hn0
      have hcell := ho1.cell (k := 0) (by omega)
      have ho : Own w4 w2.heap.size (some ⟨g1, 0, none⟩) n1 c1 xs := .inr ⟨g1, rfl, hg1, ho1⟩
      go_wp2_with (fail)
      go_quiet (fail)
      go_wp2_with (fail)
      go_ret3
      exact ⟨_, _, _, xs, high, _, rfl, ho.less hs2, hn, below_drewN hb4 _⟩
    · have hx1 : (x4 == 0) = false := by simpa using hx0
      go_wp2_with (fail)
      refine (pick_any _ _ _ _ _ (by repeat' (first | with_reducible assumption | with_reducible apply RdOk.alloc | with_reducible apply RdOk.drew | with_reducible apply RdOk.drewN | with_reducible apply RdOk.setCell | (simp; done) | (simp; omega) | omega)) (by omega)).mono ?_; rintro e w5 ⟨x5, rfl, hx5, hy5, hr5, hg5⟩; obtain ⟨hc5, hf5⟩ := gcell hg5; have z5 := hg5.size; (try simp at z5); have hl5 := hr5.lt; (have hn5 : ¬ w5.heap.size = g := by omega)
      have ho := ho.pick hg5 hl2
      have hb5 := below_grown_step hg5 hb4 hge hs4
      have hs5 := hb5.size
      clear hg5 hc5 hf5
      go_wp2_with (fail)
      refine (pick_any _ _ _ _ _ (by repeat' (first | with_reducible assumption | with_reducible apply RdOk.alloc | with_reducible apply RdOk.drew | with_reducible apply RdOk.drewN | with_reducible apply RdOk.setCell | (simp; done) | (simp; omega) | omega)) (by omega)).mono ?_; rintro e w6 ⟨x6, rfl, hx6, hy6, hr6, hg6⟩; obtain ⟨hc6, hf6⟩ := gcell hg6; have z6 := hg6.size; (try simp at z6); have hl6 := hr6.lt; (have hn6 : ¬ w6.heap.size = g := by omega)
      have ho := ho.pick hg6 hl2
      have hb6 := below_grown_step hg6 hb5 hge hs5
      have hs6 := hb6.size
      clear hg6 hc6 hf6
      go_wp2_with (fail)
      go_ret3
      exact ⟨_, _, _, xs, high, _, rfl, ho.less hs2, hn, hb6⟩

set_option maxHeartbeats 800000 in
theorem drawStackAbove_any (A : Option Addr) (n c : Nat) (zs : List Int) (w : World) (h : IsRow .u8 w A n c zs) :
    Calls Try.prog 28 #[.slice A n c] w (DrawSHI w) := by
  have H := Lib.hid h
  clear h
  go_enter Try.func28, Try.ntmps28
  go_wp2_with (fail)
  refine (l20Open_any _ _ _ _ _ H.out).mono ?_
  rintro e w1 ⟨g, rfl, hr1, hb1⟩
  have hge := hr1.ge
  have hs1 := hb1.size
  go_wp2_with (fail)
  refine (l20High_any _ _ _ _ _ hr1 (by omega) (by omega)).mono ?_
  rintro e w2 ⟨high, rfl, hr2, hg2⟩
  have hb2 := below_grown_step hg2 hb1 hge hs1
  have hs2 := hb2.size
  have hl2 := hr2.lt
  clear hr1 hg2 hb1
  go_wp2_with (fail)
  refine (l20Stack_any _ _ _ _ _ _ hr2 (by omega) (by omega) (by omega) (by omega)).mono ?_
  rintro e w3 ⟨A1, n1, c1, xs, rfl, ho, hn, hr3, hg3⟩
  have hb3 := below_grown_step hg3 hb2 hge hs2
  have hs3 := hb3.size
  clear hg3 hb2 hr2
  by_cases hn0 : n1 = 0
  · subst hn0
    go_wp2_with (fail)
    refine (pick_any _ _ _ _ _ (by repeat' (first | with_reducible assumption | with_reducible apply RdOk.alloc | with_reducible apply RdOk.drew | with_reducible apply RdOk.drewN | with_reducible apply RdOk.setCell | (simp; done) | (simp; omega) | omega)) (by omega)).mono ?_; rintro e w4 ⟨x4, rfl, hx4, hy4, hr4, hg4⟩; obtain ⟨hc4, hf4⟩ := gcell hg4; have z4 := hg4.size; (try simp at z4); have hl4 := hr4.lt; (have hn4 : ¬ w4.heap.size = g := by omega)
    have ho := ho.pick hg4 hl2
    have hb4 := below_grown_step hg4 hb3 hge hs3
    have hs4 := hb4.size
    clear hg4 hc4 hf4
    go_wp2_with (fail)
    go_ret3
    exact ⟨_, _, _, xs, high, _, rfl, ho.less hs2, hn, hb4⟩
  · have hn1 : (0 : Int) < n1 := by omega
    go_wp2_with (fail)
    refine (pick_any _ _ _ _ _ (by repeat' (first | with_reducible assumption | with_reducible apply RdOk.alloc | with_reducible apply RdOk.drew | with_reducible apply RdOk.drewN | with_reducible apply RdOk.setCell | (simp; done) | (simp; omega) | omega)) (by omega)).mono ?_; rintro e w4 ⟨x4, rfl, hx4, hy4, hr4, hg4⟩; obtain ⟨hc4, hf4⟩ := gcell hg4; have z4 := hg4.size; (try simp at z4); have hl4 := hr4.lt; (have hn4 : ¬ w4.heap.size = g := by omega)
    have ho := ho.pick hg4 hl2
    have hb4 := below_grown_step hg4 hb3 hge hs3
    have hs4 := hb4.size
    clear hg4 hc4 hf4
    by_cases hx0 : 0 < x4
    · go_wp2_with (fail)
      rcases ho with ⟨_, e, _⟩ | ⟨g1, rfl, hg1, ho1⟩
      · exact absurd e hn0
      have ho1d : OwnAt w4.drew g1 n1 c1 xs := ho1
      go_region_held3 (fun w' => ∀ j, j < n1 → w'.cell? ⟨g1, j, none⟩ = some (.int .i64 (xs.getD j 0))) (first | assumption | exact fun j hj => ho1d.cell hj | exact fun j hj => ho5.cell hj)
        (first
          | (go_at_call 41; refine (pick_any _ _ _ _ _ hr4.drew (by omega)).mono ?_; rintro e w5 ⟨x5, rfl, hx5, hy5, hr5, hg5⟩
             obtain ⟨k, rfl⟩ := Int.eq_ofNat_of_zero_le hx5
             have hk1 : k < n1 := by omega
             have hk2 : (k : Int) < n1 := by omega
             have hk3 : (k : Int) < c1 := by have := ho1.ints.1; omega
             have ho5 : OwnAt w5 g1 n1 c1 xs := OwnAt.grown (w := w4.drew) ho1d hg5 (by omega)
             have hcell := ho5.cell (k := k) hk1
             have hb5 : Below w.heap.size w w5 := below_grown_step (b := w4.drew) hg5 hb4.drew hge hs4
             clear hg5))
      all_goals go_wp2_with (fail)
      all_goals go_ret3
      all_goals exact ⟨_, _, _, xs, high, _, rfl, .inr ⟨g1, rfl, by omega, ho5⟩, hn, hb5⟩
    · go_wp2_with (fail)
      refine (pick_any _ _ _ _ _ (by repeat' (first | with_reducible assumption | with_reducible apply RdOk.alloc | with_reducible apply RdOk.drew | with_reducible apply RdOk.drewN | with_reducible apply RdOk.setCell | (simp; done) | (simp; omega) | omega)) (by omega)).mono ?_; rintro e w5 ⟨x5, rfl, hx5, hy5, hr5, hg5⟩; obtain ⟨hc5, hf5⟩ := gcell hg5; have z5 := hg5.size; (try simp at z5); have hl5 := hr5.lt; (have hn5 : ¬ w5.heap.size = g := by omega)
      have ho := ho.pick hg5 hl2
      have hb5 := below_grown_step hg5 hb4 hge hs4
      have hs5 := hb5.size
      clear hg5 hc5 hf5
      go_wp2_with (fail)
      go_ret3
      exact ⟨_, _, _, xs, high, _, rfl, ho.less hs2, hn, hb5⟩
end Go.Proofs.Ytfegbfjeokgjjaa
