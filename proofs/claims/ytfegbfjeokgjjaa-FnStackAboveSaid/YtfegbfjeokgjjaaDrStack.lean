/- The drawers of heights and stacks. Conditions: as the reader's. -/
import Derived.Test.YtfegbfjeokgjjaaAppZ
import Derived.Test.YtfegbfjeokgjjaaRd
namespace Go.Proofs.Ytfegbfjeokgjjaa
open Go.RowKit
set_option linter.unusedVariables false

def HighPost (w : World) (B g N : Nat) (e : Ending) (w' : World) : Prop := ∃ x : Int, e = .returned (.int .i64 x) ∧ RdOk w' B g N ∧ w.grownBy w' (some g)
theorem high_mk {w w' : World} {B g N M : Nat} {x : Int} (h1 : RdOk w' B g M) (h2 : M ≤ N) (h3 : w.grownBy w' (some g)) : HighPost w B g N (.returned (.int .i64 x)) w' := ⟨x, rfl, h1.more h2, h3⟩

set_option maxHeartbeats 800000 in
theorem l20High_any (B g N : Nat) (n : Int) (w : World) (h : RdOk w B g N) (hN : N ≤ 1000) (hn' : n ≤ 1000) :
    Calls Try.prog 38 #[.pointer (some ⟨g, 0, none⟩), .int .i64 n] w (HighPost w B g (N + 2)) := by
  have hlt := h.lt
  go_enter Try.func38, Try.ntmps38
  go_wp2_with (fail)
  refine (odd_any _ _ _ _ _ (by repeat' (first | with_reducible assumption | with_reducible apply RdOk.alloc | with_reducible apply RdOk.drew | with_reducible apply RdOk.drewN | with_reducible apply RdOk.setCell | (simp; done) | (simp; omega) | omega)) (by omega) (by omega)).mono ?_; rintro e w1 ⟨x1, rfl, hr1, hg1⟩; obtain ⟨hc1, hf1⟩ := gcell hg1; have z1 := hg1.size; (try simp at z1); have hl1 := hr1.lt; (have hn1 : ¬ w1.heap.size = g := by omega)
  cases x1 with
  | false =>
    go_wp2_with (fail)
    refine (pick_any _ _ _ _ _ (by repeat' (first | with_reducible assumption | with_reducible apply RdOk.alloc | with_reducible apply RdOk.drew | with_reducible apply RdOk.drewN | with_reducible apply RdOk.setCell | (simp; done) | (simp; omega) | omega)) (by omega)).mono ?_; rintro e w2 ⟨x2, rfl, hx2, hy2, hr2, hg2⟩; obtain ⟨hc2, hf2⟩ := gcell hg2; have z2 := hg2.size; (try simp at z2); have hl2 := hr2.lt; (have hn2 : ¬ w2.heap.size = g := by omega)
    go_wp2_with (fail)
    go_ret
    refine high_mk (M := N + 1 + 1) ?_ ?_ ?_
    · (repeat' (first | with_reducible assumption | with_reducible apply RdOk.alloc | with_reducible apply RdOk.drew | with_reducible apply RdOk.drewN | with_reducible apply RdOk.setCell | (simp; done) | (simp; omega) | omega))
    · omega
    · (repeat' (first | with_reducible exact World.grownBy.refl _ _ | with_reducible assumption | with_reducible refine only_step (by with_reducible assumption) ?_ | with_reducible refine only_below (by with_reducible assumption) ?_ | with_reducible refine only_drew ?_ | with_reducible refine only_drewN ?_ _ | with_reducible refine only_alloc ?_ _ | with_reducible refine only_setCell ?_ ?_ _ | (simp; done) | (simp; omega) | omega))
  | true =>
    go_wp2_with (fail)
    refine (pick_any _ _ _ _ _ (by repeat' (first | with_reducible assumption | with_reducible apply RdOk.alloc | with_reducible apply RdOk.drew | with_reducible apply RdOk.drewN | with_reducible apply RdOk.setCell | (simp; done) | (simp; omega) | omega)) (by omega)).mono ?_; rintro e w2 ⟨x2, rfl, hx2, hy2, hr2, hg2⟩; obtain ⟨hc2, hf2⟩ := gcell hg2; have z2 := hg2.size; (try simp at z2); have hl2 := hr2.lt; (have hn2 : ¬ w2.heap.size = g := by omega); (have y2_0 : w1.heap.size < w2.heap.size := by omega)
    rcases (show x2 = 0 ∨ x2 = 1 by omega) with rfl | rfl
    · go_wp2_with (fail)
      go_ret
      refine high_mk (M := N + 1 + 1) ?_ ?_ ?_
      · (repeat' (first | with_reducible assumption | with_reducible apply RdOk.alloc | with_reducible apply RdOk.drew | with_reducible apply RdOk.drewN | with_reducible apply RdOk.setCell | (simp; done) | (simp; omega) | omega))
      · omega
      · (repeat' (first | with_reducible exact World.grownBy.refl _ _ | with_reducible assumption | with_reducible refine only_step (by with_reducible assumption) ?_ | with_reducible refine only_below (by with_reducible assumption) ?_ | with_reducible refine only_drew ?_ | with_reducible refine only_drewN ?_ _ | with_reducible refine only_alloc ?_ _ | with_reducible refine only_setCell ?_ ?_ _ | (simp; done) | (simp; omega) | omega))
    · go_wp2_with (fail)
      go_ret
      refine high_mk (M := N + 1 + 1) ?_ ?_ ?_
      · (repeat' (first | with_reducible assumption | with_reducible apply RdOk.alloc | with_reducible apply RdOk.drew | with_reducible apply RdOk.drewN | with_reducible apply RdOk.setCell | (simp; done) | (simp; omega) | omega))
      · omega
      · (repeat' (first | with_reducible exact World.grownBy.refl _ _ | with_reducible assumption | with_reducible refine only_step (by with_reducible assumption) ?_ | with_reducible refine only_below (by with_reducible assumption) ?_ | with_reducible refine only_drew ?_ | with_reducible refine only_drewN ?_ _ | with_reducible refine only_alloc ?_ _ | with_reducible refine only_setCell ?_ ?_ _ | (simp; done) | (simp; omega) | omega))

/-- a reader is not touched by what turns a row above it -/
theorem RdOk.row {w w' : World} {B g N B2 n : Nat} {v : Value} {xs : List Int} (h : RdOk w B g N) (hr : RowI w B2 v n xs) (hg : w.grownBy w' v.ownBlock) (hB : g < B2) : RdOk w' B g N := by
  have hlt := h.lt
  have hge := h.ge
  have key : ∀ k, k < w.heap.size → k < B2 → w'.heap[k]? = w.heap[k]? := by
    intro k h1 h2
    refine hg.block k h1 (fun e => ?_)
    rcases hr.block with e2 | ⟨g2, e2, h3, h4⟩
    · rw [e2] at e; cases e
    · rw [e2] at e; injection e with e; omega
  obtain ⟨A, n, c, zs, p, h0, h1, h2, h3, h4⟩ := h
  exact ⟨A, n, c, zs, p, h0, h1, (key g hlt hB).trans h2, h3, h4.keep fun b o hb => World.cell?_of_block (a := ⟨b, o, none⟩) (key b (by omega) (by omega))⟩
theorem only_row {a w w' : World} {g B2 n : Nat} {v : Value} {xs : List Int} (k : a.grownBy w (some g)) (hr : RowI w B2 v n xs) (hg : w.grownBy w' v.ownBlock) (hB : a.heap.size ≤ B2) : a.grownBy w' (some g) := by
  refine ⟨hg.os.trans k.os, hg.tape.trans k.tape, hg.output.trans k.output, Nat.le_trans k.size hg.size, fun i hi hne => (hg.block i (Nat.lt_of_lt_of_le hi k.size) (fun e => ?_)).trans (k.block i hi hne)⟩
  rcases hr.block with e2 | ⟨g2, e2, h3, h4⟩
  · rw [e2] at e; cases e
  · rw [e2] at e; injection e with e; omega
theorem RowI.pick {w w' : World} {B2 n g : Nat} {v : Value} {xs : List Int} (h : RowI w B2 v n xs) (hg : w.grownBy w' (some g)) (hB : g < B2) : RowI w' B2 v n xs := by
  obtain ⟨A, c, rfl, ho⟩ := h.own
  refine RowI.of_own ?_
  rcases ho with e | ⟨g1, e, h1, h2⟩
  · exact .inl e
  · exact .inr ⟨g1, e, h1, h2.grown hg (by omega)⟩

theorem two_ints (w : World) (x y : Int) : Ints (w.alloc (.cells #[.int .i64 x, .int .i64 y] 3)) (some ⟨w.heap.size, 0, none⟩) 2 2 [x, y] :=
  OwnAt.ints ⟨#[.int .i64 x, .int .i64 y], heap_alloc_new w _, rfl, Nat.le_refl _, by unfold maxLen; omega, rfl, fun j hj => by
    rcases (show j = 0 ∨ j = 1 by omega) with rfl | rfl <;> rfl⟩

def StackPost (w : World) (B g N : Nat) (e : Ending) (w' : World) : Prop :=
  ∃ A n c xs, e = .returned (.slice A n c) ∧ Own w' w.heap.size A n c xs ∧ n ≤ 12 ∧ RdOk w' B g N ∧ w.grownBy w' (some g)

set_option maxHeartbeats 1600000 in
theorem l20Stack_any (B g N : Nat) (high n : Int) (w : World) (h : RdOk w B g N) (hN : N ≤ 1000) (hn' : n ≤ 1000) (h1 : 1 ≤ high) (h5 : high ≤ 5) :
    Calls Try.prog 39 #[.pointer (some ⟨g, 0, none⟩), .int .i64 high, .int .i64 n] w (StackPost w B g (N + 10)) := by
  have hlt := h.lt
  have ne0 : ¬ w.heap.size = g := by omega
  have hw1 : IntKind.i64.wrap (high + 1) = high + 1 := IntWalk.i64_in _ (by omega)
  go_enter Try.func39, Try.ntmps39
  go_wp2_with (fail)
  refine (pick_any _ _ _ _ _ (by repeat' (first | with_reducible assumption | with_reducible apply RdOk.alloc | with_reducible apply RdOk.drew | with_reducible apply RdOk.drewN | with_reducible apply RdOk.setCell | (simp; done) | (simp; omega) | omega)) (by omega)).mono ?_; rintro e w1 ⟨x1, rfl, hx1, hy1, hr1, hg1⟩; obtain ⟨hc1, hf1⟩ := gcell hg1; have z1 := hg1.size; (try simp at z1); have hl1 := hr1.lt; (have hn1 : ¬ w1.heap.size = g := by omega); (have y1_0 : w.heap.size < w1.heap.size := by omega)
  go_wp2_with (fail)
  refine (pick_any _ _ _ _ _ (by repeat' (first | with_reducible assumption | with_reducible apply RdOk.alloc | with_reducible apply RdOk.drew | with_reducible apply RdOk.drewN | with_reducible apply RdOk.setCell | (simp; done) | (simp; omega) | omega)) (by omega)).mono ?_; rintro e w2 ⟨x2, rfl, hx2, hy2, hr2, hg2⟩; obtain ⟨hc2, hf2⟩ := gcell hg2; have z2 := hg2.size; (try simp at z2); have hl2 := hr2.lt; (have hn2 : ¬ w2.heap.size = g := by omega); (have y2_0 : w.heap.size < w2.heap.size := by omega)
  have hrow := (empty_row (Nat.le_refl w.heap.size)).pick hg1 hlt
  have hrow := hrow.pick hg2 hlt
  have hon : w.grownBy w2 (some g) := by
    (repeat' (first | with_reducible exact World.grownBy.refl _ _ | with_reducible assumption | with_reducible refine only_step (by with_reducible assumption) ?_ | with_reducible refine only_below (by with_reducible assumption) ?_ | with_reducible refine only_drew ?_ | with_reducible refine only_drewN ?_ _ | with_reducible refine only_alloc ?_ _ | with_reducible refine only_setCell ?_ ?_ _ | (simp; done) | (simp; omega) | omega))
  have hx : x2 ≤ 5 := by omega
  clear hg1 hg2 hc1 hc2 hf1 hf2 hr1 hy2
  go_wp2_with (fail)
  go_loopw [7, 8, 9] (fun v i q wr => ∃ (j M k : Nat) (xs : List Int) (d : Int), RowI wr w.heap.size v j xs ∧ i = .int .i64 d ∧ q = .int .i64 (k : Int) ∧ j + k ≤ 5 ∧ RdOk wr B g M ∧ M + k ≤ N + 7 ∧ w.grownBy wr (some g)) (fun _ _ q _ => (intOf q).toNat)
  case atStart =>
    obtain ⟨k, rfl⟩ := Int.eq_ofNat_of_zero_le hx2
    exact ⟨0, _, k, [], _, hrow, rfl, rfl, by omega, hr2, by omega, hon⟩
  case round =>
    obtain ⟨j, M, k, xs, d, hrow, rfl, rfl, hjk, hrd, hM, hon⟩ := hrel
    have hsz := hon.size
    have hlt2 := hrd.lt
    cases k with
    | zero =>
      go_wp2_with (fail)
      refine (odd_any _ _ _ _ _ (by repeat' (first | with_reducible assumption | with_reducible apply RdOk.alloc | with_reducible apply RdOk.drew | with_reducible apply RdOk.drewN | with_reducible apply RdOk.setCell | (simp; done) | (simp; omega) | omega)) (by omega) (by omega)).mono ?_; rintro e w3 ⟨x3, rfl, hr3, hg3⟩; obtain ⟨hc3, hf3⟩ := gcell hg3; have z3 := hg3.size; (try simp at z3); have hl3 := hr3.lt; (have hn3 : ¬ w3.heap.size = g := by omega)
      have hrow3 := hrow.pick hg3 hlt
      have hon3 := only_step hg3 hon
      have hs3 := hon3.size
      clear hrow hrd hon hc3 hf3
      cases x3 with
      | false =>
        go_wp2_with (fail)
        go_ret
        obtain ⟨A, c, rfl, ho⟩ := hrow3.own
        exact ⟨A, j, c, xs, rfl, ho, by omega, hr3.more (by omega), hon3⟩
      | true =>
        go_wp2_with (fail)
        refine (pick_any _ _ _ _ _ (by repeat' (first | with_reducible assumption | with_reducible apply RdOk.alloc | with_reducible apply RdOk.drew | with_reducible apply RdOk.drewN | with_reducible apply RdOk.setCell | (simp; done) | (simp; omega) | omega)) (by omega)).mono ?_; rintro e w4 ⟨x4, rfl, hx4, hy4, hr4, hg4⟩; obtain ⟨hc4, hf4⟩ := gcell hg4; have z4 := hg4.size; (try simp at z4); have hl4 := hr4.lt; (have hn4 : ¬ w4.heap.size = g := by omega)
        have hrow4 := hrow3.pick hg4 hlt
        have hon4 := only_step hg4 hon3
        have hs4 := hon4.size
        clear hrow3 hr3 hon3 hc4 hf4 hg3 hg4
        rcases (show x4 = 0 ∨ x4 = 1 ∨ x4 = 2 by omega) with rfl | rfl | rfl
        · go_wp2_with (first
           | (at_builtin; refine wpList_append_ints rfl _ _ rfl w.heap.size _ j xs rfl (hrow4.alloc _) (some ⟨w4.heap.size, 0, none⟩) 1 1 [0] rfl (one_ints _ _) (by omega) (le_alloc hs4 _) ?_; intro v5 w5 hr5 hg5
              have hon5 := only_row (only_alloc hon4 _) (hrow4.alloc _) hg5 (Nat.le_refl _)
              have hrd5 := (hr4.alloc _).row (hrow4.alloc _) hg5 hlt
              obtain ⟨A, c, rfl, ho⟩ := hr5.own
              clear hg5))
          go_ret
          exact ⟨A, j + 1, c, xs ++ [0], rfl, ho, by omega, hrd5.more (by omega), hon5⟩
        · go_wp2_with (first
           | (at_builtin; refine wpList_append_ints rfl _ _ rfl w.heap.size _ j xs rfl (hrow4.alloc _) (some ⟨w4.heap.size, 0, none⟩) 2 2 [5, 5] rfl (two_ints _ _ _) (by omega) (le_alloc hs4 _) ?_; intro v5 w5 hr5 hg5
              have hon5 := only_row (only_alloc hon4 _) (hrow4.alloc _) hg5 (Nat.le_refl _)
              have hrd5 := (hr4.alloc _).row (hrow4.alloc _) hg5 hlt
              obtain ⟨A, c, rfl, ho⟩ := hr5.own
              clear hg5))
          go_ret
          exact ⟨A, j + 2, c, xs ++ [5, 5], rfl, ho, by omega, hrd5.more (by omega), hon5⟩
        · go_wp2_with (first
           | (at_builtin; refine wpList_append_zeros rfl _ _ rfl w.heap.size _ j xs rfl hrow4 6 rfl (by omega) (by omega) (by omega) hs4 ?_; intro v5 w5 hr5 hg5
              have hon5 := only_row hon4 hrow4 hg5 (Nat.le_refl _)
              have hrd5 := hr4.row hrow4 hg5 hlt
              obtain ⟨A, c, rfl, ho⟩ := hr5.own
              clear hg5))
          go_ret
          exact ⟨A, j + 6, c, xs ++ List.replicate 6 0, rfl, ho, by omega, hrd5.more (by omega), hon5⟩
    | succ k =>
      have hk0 : (0 : Int) < ((k + 1 : Nat) : Int) := by omega
      have hw2 : IntKind.i64.wrap (k : Int) = k := IntWalk.i64_in _ (by omega)
      go_wp2_with (first
        | (at_builtin; refine wpList_append_ints rfl _ _ rfl w.heap.size _ j xs rfl (hrow.alloc _) (some ⟨wr.heap.size, 0, none⟩) 1 1 [d] rfl (one_ints _ _) (by omega) (le_alloc hsz _) ?_; intro v3 w3 hr3 hg3
           have hon3 := only_row (only_alloc hon _) (hrow.alloc _) hg3 (Nat.le_refl _)
           have hrd3 := (hrd.alloc _).row (hrow.alloc _) hg3 hlt
           clear hg3)
        | (go_at_call 41; refine (pick_any _ _ _ _ _ hrd3 (by omega)).mono ?_; rintro e w4 ⟨x4, rfl, hx4, hy4, hr4, hg4⟩
           have hr5 := hr3.pick hg4 hlt
           have hon5 := only_step hg4 hon3))
      exact ⟨⟨j + 1, M + 1, k, xs ++ [d], _, hr5, rfl, rfl, by omega, hr4, by omega, hon5⟩, by simp [intOf]⟩
end Go.Proofs.Ytfegbfjeokgjjaa
