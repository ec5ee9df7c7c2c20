/- The drawer of lists of boxes. Conditions: as the reader's. -/
import Derived.Test.YtbhmbmfhbeocoaaAppB
import Derived.Test.YtbhmbmfhbeocoaaDrBox
namespace Go.Proofs.Ytbhmbmfhbeocoaa
open Go.RowKit
set_option linter.unusedVariables false

/-- a reader is not touched by what turns a row of boxes above it -/
theorem RdOk.rowB {w w' : World} {B g N B2 n : Nat} {v : Value} {xs : List Bx} (h : RdOk w B g N) (hr : RowB w B2 v n xs) (hg : w.grownBy w' v.ownBlock) (hB : g < B2) : RdOk w' B g N := by
  have hlt := h.lt
  have hge := h.ge
  have key : ∀ k, k < w.heap.size → k < B2 → w'.heap[k]? = w.heap[k]? := by
    intro k h1 h2
    refine hg.block k h1 (fun e => ?_)
    rcases hr.block with e2 | ⟨g2, e2, h3, h4⟩
    · rw [e2] at e; cases e
    · rw [e2] at e; injection e with e; omega
  obtain ⟨A, n, c, zs, p, h0, h1, h2, h3, h4⟩ := h
  exact ⟨A, n, c, zs, p, h0, h1, (key g hlt hB).trans h2, h3, h4.keep fun b o hb => World.cell?_of_block (a := ⟨b, o, none⟩) (key b (by omega) (by omega))⟩

theorem one_boxes (w : World) (y : Bx) : IsBoxes (w.alloc (.cells #[.int .i64 y.id, .int .i64 y.wt, .int .i64 y.cl, .int .i64 y.po, .bool y.co] 25)) (some ⟨w.heap.size, 0, none⟩) 1 1 [y] := by
  have hh := heap_alloc_new w (.cells #[.int .i64 y.id, .int .i64 y.wt, .int .i64 y.cl, .int .i64 y.po, .bool y.co] 25)
  refine ⟨Nat.le_refl _, by unfold maxLen; omega, rfl, (fun e => by cases e), fun _ => ⟨_, 0, rfl, by simp, fun j hj => ?_⟩⟩
  obtain rfl : j = 0 := by omega
  simp only [BoxAt, World.cell?, hh]
  exact ⟨rfl, rfl, rfl, rfl, rfl⟩
theorem two_boxes (w : World) (y z : Bx) : IsBoxes (w.alloc (.cells #[.int .i64 y.id, .int .i64 y.wt, .int .i64 y.cl, .int .i64 y.po, .bool y.co, .int .i64 z.id, .int .i64 z.wt, .int .i64 z.cl, .int .i64 z.po, .bool z.co] 25)) (some ⟨w.heap.size, 0, none⟩) 2 2 [y, z] := by
  have hh := heap_alloc_new w (.cells #[.int .i64 y.id, .int .i64 y.wt, .int .i64 y.cl, .int .i64 y.po, .bool y.co, .int .i64 z.id, .int .i64 z.wt, .int .i64 z.cl, .int .i64 z.po, .bool z.co] 25)
  refine ⟨Nat.le_refl _, by unfold maxLen; omega, rfl, (fun e => by cases e), fun _ => ⟨_, 0, rfl, by simp, fun j hj => ?_⟩⟩
  rcases (show j = 0 ∨ j = 1 by omega) with rfl | rfl
  · simp only [BoxAt, World.cell?, hh]
    exact ⟨rfl, rfl, rfl, rfl, rfl⟩
  · simp only [BoxAt, World.cell?, hh]
    exact ⟨rfl, rfl, rfl, rfl, rfl⟩
theorem zerosB_own (w : World) (n B : Nat) (hn : n ≤ maxLen) (hB : B ≤ w.heap.size) : OwnB (w.alloc (.cells (zerosB n) 25)) B (some ⟨w.heap.size, 0, none⟩) n n (List.replicate n zb) :=
  ⟨(zerosB_made w n hn).boxes, fun p hp => by injection hp with hp; subst hp; exact ⟨hB, by simp⟩⟩

def BoxesPost (w : World) (B g N : Nat) (e : Ending) (w' : World) : Prop :=
  ∃ A n c bs, e = .returned (.slice A n c) ∧ OwnB w' w.heap.size A n c bs ∧ n ≤ 12 ∧ RdOk w' B g N ∧ w.grownBy w' (some g)

set_option maxHeartbeats 3200000 in
theorem l20Boxes_any (B g N : Nat) (many n : Int) (w : World) (h : RdOk w B g N) (hN : N ≤ 10000) (hn' : n ≤ 1000) (h1 : 0 ≤ many) (h5 : many ≤ 10) :
    Calls Try.prog 40 #[.pointer (some ⟨g, 0, none⟩), .int .i64 many, .int .i64 n] w (BoxesPost w B g (N + 130)) := by
  have hlt := h.lt
  have ne0 : ¬ w.heap.size = g := by omega
  have hw1 : IntKind.i64.wrap (many + 1) = many + 1 := IntWalk.i64_in _ (by omega)
  go_enter Try.func40, Try.ntmps40
  go_wp2_with (fail)
  refine (pick_any _ _ _ _ _ (by repeat' (first | with_reducible assumption | with_reducible apply RdOk.alloc | with_reducible apply RdOk.drew | with_reducible apply RdOk.drewN | with_reducible apply RdOk.setCell | (simp; done) | (simp; omega) | omega)) (by omega)).mono ?_; rintro e w1 ⟨x1, rfl, hx1, hy1, hr1, hg1⟩; obtain ⟨hc1, hf1⟩ := gcell hg1; have z1 := hg1.size; (try simp at z1); have hl1 := hr1.lt; (have hn1 : ¬ w1.heap.size = g := by omega); (have y1_0 : w.heap.size < w1.heap.size := by omega)
  have hrow := (empty_rowB (Nat.le_refl w.heap.size)).pick hg1 hlt
  have hon : w.grownBy w1 (some g) := by
    (repeat' (first | with_reducible exact World.grownBy.refl _ _ | with_reducible assumption | with_reducible refine only_step (by with_reducible assumption) ?_ | with_reducible refine only_below (by with_reducible assumption) ?_ | with_reducible refine only_drew ?_ | with_reducible refine only_drewN ?_ _ | with_reducible refine only_alloc ?_ _ | with_reducible refine only_setCell ?_ ?_ _ | (simp; done) | (simp; omega) | omega))
  have hx : x1 ≤ 10 := by omega
  clear hg1 hc1 hf1 hy1
  go_wp2_with (fail)
  go_loopw [7, 8] (fun v q wr => ∃ (j M k : Nat) (xs : List Bx), RowB wr w.heap.size v j xs ∧ q = .int .i64 (k : Int) ∧ j + k ≤ 10 ∧ RdOk wr B g M ∧ M + 10 * k ≤ N + 101 ∧ w.grownBy wr (some g)) (fun _ q _ => (intOf q).toNat)
  case atStart =>
    obtain ⟨k, rfl⟩ := Int.eq_ofNat_of_zero_le hx1
    exact ⟨0, _, k, [], hrow, rfl, by omega, hr1, by omega, hon⟩
  case round =>
    obtain ⟨j, M, k, xs, hrow, rfl, hjk, hrd, hM, hon⟩ := hrel
    have hsz := hon.size
    have hlt2 := hrd.lt
    obtain ⟨A, c, rfl, ho⟩ := hrow.own
    cases k with
    | zero =>
      go_wp2_with (fail)
      refine (odd_any _ _ _ _ _ (by repeat' (first | with_reducible assumption | with_reducible apply RdOk.alloc | with_reducible apply RdOk.drew | with_reducible apply RdOk.drewN | with_reducible apply RdOk.setCell | (simp; done) | (simp; omega) | omega)) (by omega) (by omega)).mono ?_; rintro e w3 ⟨x3, rfl, hr3, hg3⟩; obtain ⟨hc3, hf3⟩ := gcell hg3; have z3 := hg3.size; (try simp at z3); have hl3 := hr3.lt; (have hn3 : ¬ w3.heap.size = g := by omega)
      have hrow3 := hrow.pick hg3 hlt
      have ho3 := ho.pick hg3 hlt
      have hon3 := only_step hg3 hon
      have hs3 := hon3.size
      clear hrow hrd hon hc3 hf3 ho
      cases x3 with
      | false =>
        go_wp2_with (fail)
        go_ret
        exact ⟨A, j, c, xs, rfl, ho3, by omega, hr3.more (by omega), hon3⟩
      | true =>
        go_wp2_with (fail)
        refine (pick_any _ _ _ _ _ (by repeat' (first | with_reducible assumption | with_reducible apply RdOk.alloc | with_reducible apply RdOk.drew | with_reducible apply RdOk.drewN | with_reducible apply RdOk.setCell | (simp; done) | (simp; omega) | omega)) (by omega)).mono ?_; rintro e w4 ⟨x4, rfl, hx4, hy4, hr4, hg4⟩; obtain ⟨hc4, hf4⟩ := gcell hg4; have z4 := hg4.size; (try simp at z4); have hl4 := hr4.lt; (have hn4 : ¬ w4.heap.size = g := by omega)
        have hrow4 := hrow3.pick hg4 hlt
        have hon4 := only_step hg4 hon3
        have hs4 := hon4.size
        clear hrow3 hr3 hon3 hc4 hf4 hg3 hg4 ho3
        rcases (show x4 = 0 ∨ x4 = 1 ∨ x4 = 2 by omega) with rfl | rfl | rfl
        · have hmk : ∀ W, (Instr.makeSlice 31 (.int .i64 11) (.int .i64 11)).run Try.prog W = .ok (.slice (some ⟨W.heap.size, 0, none⟩) 11 11) (W.alloc (.cells (zerosB 11) 25)) := run_zerosB 11 (by omega)
          go_wp2_with (fail)
          go_ret
          exact ⟨_, 11, 11, _, rfl, zerosB_own w4 11 _ (by unfold maxLen; omega) hs4, by omega, (hr4.alloc _).more (by omega), only_alloc hon4 _⟩
        · go_wp2_with (first
           | (at_builtin; refine wpList_append_boxes rfl _ _ rfl w.heap.size _ j xs rfl (hrow5.alloc _) (some ⟨w5.heap.size, 0, none⟩) 1 1 [y] rfl (one_boxes _ _) (by omega) (le_alloc hs5 _) ?_; intro v6 w6 hr6 hg6
              have hon6 := only_rowB (only_alloc hon5 _) (hrow5.alloc _) hg6 (Nat.le_refl _)
              have hrd6 := (hr5.alloc _).rowB (hrow5.alloc _) hg6 hlt
              obtain ⟨A6, c6, rfl, ho6⟩ := hr6.own
              clear hg6)
           | (go_at_call 37; refine (l20Box_any _ _ _ _ _ _ hr4 (by omega) (by omega)).mono ?_; rintro e w5 ⟨y, rfl, hr5, hg5⟩
              have hrow5 := hrow4.pick hg5 hlt
              have hon5 := only_step hg5 hon4
              have hs5 := hon5.size
              unfold Bx.val))
          go_ret
          exact ⟨A6, j + 1, c6, _, rfl, ho6, by omega, hrd6.more (by omega), hon6⟩
        · go_wp2_with (first
           | (at_builtin; refine wpList_append_boxes rfl _ _ rfl w.heap.size _ j xs rfl (hrow4.alloc _) (some ⟨w4.heap.size, 0, none⟩) 2 2 [⟨7, 3, 0, 0, false⟩, ⟨7, 4, 0, 0, false⟩] rfl (two_boxes _ _ _) (by omega) (le_alloc hs4 _) ?_; intro v6 w6 hr6 hg6
              have hon6 := only_rowB (only_alloc hon4 _) (hrow4.alloc _) hg6 (Nat.le_refl _)
              have hrd6 := (hr4.alloc _).rowB (hrow4.alloc _) hg6 hlt
              obtain ⟨A6, c6, rfl, ho6⟩ := hr6.own
              clear hg6))
          go_ret
          exact ⟨A6, j + 2, c6, _, rfl, ho6, by omega, hrd6.more (by omega), hon6⟩
    | succ k =>
      have hk0 : (0 : Int) < ((k + 1 : Nat) : Int) := by omega
      have hw2 : IntKind.i64.wrap (k : Int) = k := IntWalk.i64_in _ (by omega)
      have hw3 : IntKind.i64.wrap ((j : Int) + 1) = j + 1 := IntWalk.i64_in _ (by omega)
      go_wp2_with (first
        | (at_builtin; refine wpList_append_boxes rfl _ _ rfl w.heap.size _ j xs rfl (hrow3.alloc _) (some ⟨w3.heap.size, 0, none⟩) 1 1 [y] rfl (one_boxes _ _) (by omega) (le_alloc hs3 _) ?_; intro v4 w4 hr4 hg4
           have hon4 := only_rowB (only_alloc hon3 _) (hrow3.alloc _) hg4 (Nat.le_refl _)
           have hrd4 := (hr3.alloc _).rowB (hrow3.alloc _) hg4 hlt
           clear hg4)
        | (go_at_call 37; refine (l20Box_any _ _ _ _ _ _ hrd (by omega) (by omega)).mono ?_; rintro e w3 ⟨y, rfl, hr3, hg3⟩
           have hrow3 := hrow.pick hg3 hlt
           have hon3 := only_step hg3 hon
           have hs3 := hon3.size
           unfold Bx.val))
      exact ⟨⟨j + 1, M + 9, k, xs ++ [y], hr4, rfl, by omega, hrd4, by omega, hon4⟩, by simp [intOf]⟩
end Go.Proofs.Ytbhmbmfhbeocoaa
