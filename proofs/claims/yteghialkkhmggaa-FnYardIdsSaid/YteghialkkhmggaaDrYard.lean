/- The drawer of yards. Conditions: as the reader's. -/
import Derived.Test.YteghialkkhmggaaSS
namespace Go.Proofs.Yteghialkkhmggaa
open Go.RowKit
set_option linter.unusedVariables false

def YardPost (w : World) (B g N : Nat) (e : Ending) (w' : World) : Prop :=
  ∃ (hi : Int) (v : Value) (n : Nat) (sss : List (List Int)), e = .returned (.agg #[.int .i64 hi, v]) ∧ SS w' w.heap.size v n sss ∧ n ≤ 8 ∧ RdOk w' B g N ∧ w.grownBy w' (some g)

theorem yard_mk {w w' : World} {B g N M b : Nat} {hi : Int} {v : Value} {n : Nat} {sss : List (List Int)} (h1 : SS w' b v n sss) (hb : w.heap.size ≤ b) (hn : n ≤ 8) (h2 : RdOk w' B g M) (hM : M ≤ N) (h3 : w.grownBy w' (some g)) : YardPost w B g N (.returned (.agg #[.int .i64 hi, v])) w' :=
  ⟨hi, v, n, sss, rfl, h1.less hb, hn, h2.more hM, h3⟩

set_option maxHeartbeats 1600000 in
theorem l20Yard_any (B g N : Nat) (n : Int) (w : World) (h : RdOk w B g N) (hN : N ≤ 1000) (hn' : n ≤ 1000) :
    Calls Try.prog 56 #[.pointer (some ⟨g, 0, none⟩), .int .i64 n] w (YardPost w B g (N + 100)) := by
  have hlt := h.lt
  have ne0 : ¬ w.heap.size = g := by omega
  have hR0 : Vr (w.alloc (.cells #[.int .i64 0, .slice none 0 0] 27)) w.heap.size 0 (.slice none 0 0) := Vr.new _ _ _
  go_enter Try.func56, Try.ntmps56
  go_wp2_with (fail)
  refine (pick_any _ _ _ _ _ (by repeat' (first | with_reducible assumption | with_reducible apply RdOk.alloc | with_reducible apply RdOk.drew | with_reducible apply RdOk.drewN | with_reducible apply RdOk.setCell | (simp; done) | (simp; omega) | omega)) (by omega)).mono ?_; rintro e w1 ⟨x1, rfl, hx1, hy1, hr1, hg1⟩; obtain ⟨hc1, hf1⟩ := gcell hg1; have z1 := hg1.size; (try simp at z1); have hl1 := hr1.lt; (have hn1 : ¬ w1.heap.size = g := by omega); (have y1_0 : w.heap.size < w1.heap.size := by omega)
  have hR1 := hR0.apart hg1 (by intro e; injection e with e; omega)
  have hY1 : Vr (w1.alloc (.cells #[.int .i64 (1 + x1), .slice none 0 0] 27)) w1.heap.size (1 + x1) (.slice none 0 0) := Vr.new _ _ _
  go_wp2_with (fail)
  refine (pick_any _ _ _ _ _ (by repeat' (first | with_reducible assumption | with_reducible apply RdOk.alloc | with_reducible apply RdOk.drew | with_reducible apply RdOk.drewN | with_reducible apply RdOk.setCell | (simp; done) | (simp; omega) | omega)) (by omega)).mono ?_; rintro e w2 ⟨x2, rfl, hx2, hy2, hr2, hg2⟩; obtain ⟨hc2, hf2⟩ := gcell hg2; have z2 := hg2.size; (try simp at z2); have hl2 := hr2.lt; (have hn2 : ¬ w2.heap.size = g := by omega); (have y2_0 : w.heap.size < w2.heap.size := by omega)
  have hR2 := (hR1.alloc _).apart hg2 (by intro e; injection e with e; omega)
  have hY2 := hY1.apart hg2 (by intro e; injection e with e; omega)
  go_wp2_with (fail)
  refine (pick_any _ _ _ _ _ (by repeat' (first | with_reducible assumption | with_reducible apply RdOk.alloc | with_reducible apply RdOk.drew | with_reducible apply RdOk.drewN | with_reducible apply RdOk.setCell | (simp; done) | (simp; omega) | omega)) (by omega)).mono ?_; rintro e w3 ⟨x3, rfl, hx3, hy3, hr3, hg3⟩; obtain ⟨hc3, hf3⟩ := gcell hg3; have z3 := hg3.size; (try simp at z3); have hl3 := hr3.lt; (have hn3 : ¬ w3.heap.size = g := by omega); (have y3_0 : w.heap.size < w3.heap.size := by omega)
  have hR3 := hR2.apart hg3 (by intro e; injection e with e; omega)
  have hY3 := hY2.apart hg3 (by intro e; injection e with e; omega)
  have hon : w.grownBy w3 (some g) := by
    (repeat' (first | with_reducible exact World.grownBy.refl _ _ | with_reducible assumption | with_reducible refine only_step (by with_reducible assumption) ?_ | with_reducible refine only_below (by with_reducible assumption) ?_ | with_reducible refine only_drew ?_ | with_reducible refine only_drewN ?_ _ | with_reducible refine only_alloc ?_ _ | with_reducible refine only_setCell ?_ ?_ _ | (simp; done) | (simp; omega) | omega))
  obtain ⟨Y, hY⟩ : ∃ Y, w1.heap.size = Y := ⟨_, rfl⟩
  rw [hY] at hY3
  have hRY : w.heap.size < Y := by omega
  have hgY : g < Y := by omega
  have hYs : Y < w3.heap.size := by omega
  obtain ⟨hi, hhi⟩ : ∃ hi, 1 + x1 = hi := ⟨_, rfl⟩
  rw [hhi] at hY3
  have hh0 : 1 ≤ hi := by omega
  have hh4 : hi ≤ 4 := by omega
  have hx3' : x3 ≤ 4 := by omega
  have hS3 : SS w3 (Y + 1) (.slice none 0 0) 0 [] := SS.nil _ _
  clear hR0 hR1 hR2 hY1 hY2 hg1 hg2 hg3 hc1 hc2 hc3 hf1 hf2 hf3 hr1 hr2 z1 z2 z3 hl1 hl2 hl3 hn1 hn2 hn3 hy1 hy2 hy3 hx1
  rw [hY]
  clear hY hhi
  have hw0 : IntKind.i64.wrap (1 + x3) = 1 + x3 := IntWalk.i64_in _ (by omega)
  go_wp2_with (fail)
  go_loopw [6, 7] (fun i q wr => ∃ (m M k : Nat) (sss : List (List Int)) (d : Int) (A : Option Addr) (c : Nat), i = .int .i64 d ∧ q = .int .i64 (k : Int) ∧ m + k ≤ 5 ∧ 1 ≤ m + k ∧ SS wr (Y + 1) (.slice A m c) m sss ∧ Vr wr Y hi (.slice A m c) ∧ Vr wr w.heap.size 0 (.slice none 0 0) ∧ RdOk wr B g M ∧ M + 6 * k ≤ N + 33 ∧ w.grownBy wr (some g)) (fun _ q _ => (intOf q).toNat)
  case atStart =>
    obtain ⟨k, rfl⟩ := Int.eq_ofNat_of_zero_le hx3
    exact ⟨0, _, 1 + k, [], _, none, 0, rfl, by go_num, by omega, by omega, hS3, hY3, hR3, hr3, by omega, hon⟩
  case round =>
    clear hS3 hY3 hR3 hr3 hon hw0
    obtain ⟨m, M, k, sss, d, A, c, rfl, rfl, hmk, hmk1, hS, hVY, hVR, hrd, hM, hon⟩ := hrel
    have hsz := hon.size
    have hlt2 := hrd.lt
    have hYl := hVY.lt
    obtain ⟨c0, c1, f0, f1⟩ := hVY.cells
    cases k with
    | zero =>
      go_wp2_with (fail)
      refine (odd_any _ _ _ _ _ (by repeat' (first | with_reducible assumption | with_reducible apply RdOk.alloc | with_reducible apply RdOk.drew | with_reducible apply RdOk.drewN | with_reducible apply RdOk.setCell | (simp; done) | (simp; omega) | omega)) (by omega) (by omega)).mono ?_; rintro e w4 ⟨x4, rfl, hr4, hg4⟩; obtain ⟨hc4, hf4⟩ := gcell hg4; have z4 := hg4.size; (try simp at z4); have hl4 := hr4.lt; (have hn4 : ¬ w4.heap.size = g := by omega)
      have hS4 := hS.pick hg4 (by omega)
      have hVY4 := hVY.apart hg4 (by intro e; injection e with e; omega)
      have hVR4 := hVR.apart hg4 (by intro e; injection e with e; omega)
      have hon4 := only_step hg4 hon
      have hs4 := hon4.size
      clear hS hVY hVR hrd hon hc4 hf4 hg4 c0 c1 f0 f1
      obtain ⟨c0, c1, f0, f1⟩ := hVY4.cells
      obtain ⟨r0, r1, e0, e1⟩ := hVR4.cells
      have hYl4 := hVY4.lt
      cases x4 with
      | false =>
        have hge := hr4.ge
        go_wp2_with (fail)
        have hF := (hVR4.high hi).put (.slice A m c)
        obtain ⟨q0, q1, _, _⟩ := hF.cells
        have hS5 := ((hS4.setCell (p := ⟨w.heap.size, 0, none⟩) (by simp; omega) (.int .i64 hi)).setCell (p := ⟨w.heap.size, 1, none⟩) (by simp; omega) (.slice A m c)).less (show w.heap.size ≤ Y + 1 by omega)
        have hrd5 := (hr4.setCell (a := ⟨w.heap.size, 0, none⟩) (by simp; omega) (by simp; omega) (.int .i64 hi)).setCell (a := ⟨w.heap.size, 1, none⟩) (by simp; omega) (by simp; omega) (.slice A m c)
        have hon5 := only_setCell (only_setCell hon4 (p := ⟨w.heap.size, 0, none⟩) (by simp) (.int .i64 hi)) (p := ⟨w.heap.size, 1, none⟩) (by simp) (.slice A m c)
        refine bodyPost_ret (v := .agg #[.int .i64 hi, .slice A m c]) (by simp [results, Try.results56, go_sem, q0, q1]) rfl ⟨hi, _, m, sss, rfl, hS5, by omega, hrd5.more (by omega), hon5⟩
      | true =>
        go_wp2_with (fail)
        refine (pick_any _ _ _ _ _ (by repeat' (first | with_reducible assumption | with_reducible apply RdOk.alloc | with_reducible apply RdOk.drew | with_reducible apply RdOk.drewN | with_reducible apply RdOk.setCell | (simp; done) | (simp; omega) | omega)) (by omega)).mono ?_; rintro e w5 ⟨x5, rfl, hx5, hy5, hr5, hg5⟩; obtain ⟨hc5, hf5⟩ := gcell hg5; have z5 := hg5.size; (try simp at z5); have hl5 := hr5.lt; (have hn5 : ¬ w5.heap.size = g := by omega)
        have hS5 := hS4.pick hg5 (by omega)
        have hVY5 := hVY4.apart hg5 (by intro e; injection e with e; omega)
        have hVR5 := hVR4.apart hg5 (by intro e; injection e with e; omega)
        have hon5 := only_step hg5 hon4
        have hs5 := hon5.size
        clear hS4 hVY4 hVR4 hr4 hon4 hc5 hf5 hg5 c0 c1 f0 f1 r0 r1 e0 e1
        obtain ⟨c0, c1, f0, f1⟩ := hVY5.cells
        obtain ⟨r0, r1, e0, e1⟩ := hVR5.cells
        have hYl5 := hVY5.lt
        have hrl5 := hVR5.lt
        have hYne : ¬ w.heap.size = Y := by omega
        have hYne' : ¬ Y = w.heap.size := by omega
        have hge5 := hr5.ge
        rcases (show x5 = 0 ∨ x5 = 1 ∨ x5 = 2 ∨ x5 = 3 by omega) with rfl | rfl | rfl | rfl
        · have hS6 := hS5.alloc (.cells #[.int .i64 0, .int .i64 6] 3)
          have hVY6 := hVY5.alloc (.cells #[.int .i64 0, .int .i64 6] 3)
          have hVR6 := hVR5.alloc (.cells #[.int .i64 0, .int .i64 6] 3)
          go_wp2_with (fail)
          refine (pick_any _ _ _ _ _ (by repeat' (first | with_reducible assumption | with_reducible apply RdOk.alloc | with_reducible apply RdOk.drew | with_reducible apply RdOk.drewN | with_reducible apply RdOk.setCell | (simp; done) | (simp; omega) | omega)) (by omega)).mono ?_; rintro e w6 ⟨x6, rfl, hx6, hy6, hr6, hg6⟩; obtain ⟨hc6, hf6⟩ := gcell hg6; have z6 := hg6.size; (try simp at z6); have hl6 := hr6.lt; (have hn6 : ¬ w6.heap.size = g := by omega); (have y6_0 : w.heap.size < w6.heap.size := by omega); (have y6_1 : Y < w6.heap.size := by omega); (have y6_2 : w5.heap.size < w6.heap.size := by omega)
          have hS7 := hS6.pick hg6 (by omega)
          have hVY7 := hVY6.apart hg6 (by intro e; injection e with e; omega)
          have hVR7 := hVR6.apart hg6 (by intro e; injection e with e; omega)
          have hon7 := only_step hg6 (only_alloc hon5 _)
          have l0 : w6.cell? ⟨w5.heap.size, 0, none⟩ = some (.int .i64 0) := (hc6 w5.heap.size 0 (by simp) (by omega)).trans (by go_simp)
          have l1 : w6.cell? ⟨w5.heap.size, 1, none⟩ = some (.int .i64 6) := (hc6 w5.heap.size 1 (by simp) (by omega)).trans (by go_simp)
          clear hS5 hS6 hVY5 hVY6 hVR5 hVR6 hon5 hr5 hg6 hc6 hf6 c0 c1 f0 f1 r0 r1 e0 e1
          have hYl7 := hVY7.lt
          have hRl7 := hVR7.lt
          obtain ⟨c0, c1, f0, f1⟩ := hVY7.cells
          obtain ⟨r0, r1, e0, e1⟩ := hVR7.cells
          rcases (show x6 = 0 ∨ x6 = 1 by omega) with rfl | rfl
          · go_wp2_with (fail)
            refine bodyPost_ret (v := ?_) ?_ rfl ?_
            rotate_left
            · simp [results, Try.results56, go_sem, r0, r1]; rfl
            · refine yard_mk (b := Y + 1) (n := ?_) (sss := ?_) (M := ?_) ?_ (by omega) ?_ ?_ ?_ ?_
              rotate_left 3
              · (repeat' (first | with_reducible assumption | with_reducible refine SS.alloc ?_ _ | with_reducible refine SS.setCell ?_ ?_ _ | (simp; done) | (simp; omega) | omega))
              · omega
              · (repeat' (first | with_reducible assumption | with_reducible apply RdOk.alloc | with_reducible apply RdOk.drew | with_reducible apply RdOk.drewN | with_reducible apply RdOk.setCell | (simp; done) | (simp; omega) | omega))
              · omega
              · (repeat' (first | with_reducible exact World.grownBy.refl _ _ | with_reducible assumption | with_reducible refine only_step (by with_reducible assumption) ?_ | with_reducible refine only_below (by with_reducible assumption) ?_ | with_reducible refine only_drew ?_ | with_reducible refine only_drewN ?_ _ | with_reducible refine only_alloc ?_ _ | with_reducible refine only_setCell ?_ ?_ _ | (simp; done) | (simp; omega) | omega))
          · go_wp2_with (fail)
            refine bodyPost_ret (v := ?_) ?_ rfl ?_
            rotate_left
            · simp [results, Try.results56, go_sem, r0, r1]; rfl
            · refine yard_mk (b := Y + 1) (n := ?_) (sss := ?_) (M := ?_) ?_ (by omega) ?_ ?_ ?_ ?_
              rotate_left 3
              · (repeat' (first | with_reducible assumption | with_reducible refine SS.alloc ?_ _ | with_reducible refine SS.setCell ?_ ?_ _ | (simp; done) | (simp; omega) | omega))
              · omega
              · (repeat' (first | with_reducible assumption | with_reducible apply RdOk.alloc | with_reducible apply RdOk.drew | with_reducible apply RdOk.drewN | with_reducible apply RdOk.setCell | (simp; done) | (simp; omega) | omega))
              · omega
              · (repeat' (first | with_reducible exact World.grownBy.refl _ _ | with_reducible assumption | with_reducible refine only_step (by with_reducible assumption) ?_ | with_reducible refine only_below (by with_reducible assumption) ?_ | with_reducible refine only_drew ?_ | with_reducible refine only_drewN ?_ _ | with_reducible refine only_alloc ?_ _ | with_reducible refine only_setCell ?_ ?_ _ | (simp; done) | (simp; omega) | omega))
        · go_wp2_with (fail)
          refine bodyPost_ret (v := ?_) ?_ rfl ?_
          rotate_left
          · simp [results, Try.results56, go_sem, r0, r1, hrl5]; rfl
          · refine yard_mk (b := Y + 1) (n := ?_) (sss := ?_) (M := ?_) ?_ (by omega) ?_ ?_ ?_ ?_
            rotate_left 3
            · refine SS.empty' _ ?_ ?_
              · simp [World.setCell]
              · simp [World.setCell]; omega
            · omega
            · (repeat' (first | with_reducible assumption | with_reducible apply RdOk.alloc | with_reducible apply RdOk.drew | with_reducible apply RdOk.drewN | with_reducible apply RdOk.setCell | (simp; done) | (simp; omega) | omega))
            · omega
            · (repeat' (first | with_reducible exact World.grownBy.refl _ _ | with_reducible assumption | with_reducible refine only_step (by with_reducible assumption) ?_ | with_reducible refine only_below (by with_reducible assumption) ?_ | with_reducible refine only_drew ?_ | with_reducible refine only_drewN ?_ _ | with_reducible refine only_alloc ?_ _ | with_reducible refine only_setCell ?_ ?_ _ | (simp; done) | (simp; omega) | omega))
        · have hrow6 := hS5.row
          have hfh : SlOwn ((w5.alloc (.cells #[.int .i64 500] 3)).alloc (.cells #[.int .i64 500] 3)) (Y + 1) (.slice (some ⟨w5.heap.size, 0, none⟩) 1 1) [500] := ⟨_, 1, 1, rfl, .inr ⟨w5.heap.size, rfl, by omega, (one_own w5 500).below ((Below.refl _ _).alloc (Nat.le_refl _) _)⟩⟩
          have hfi : SlOwn ((w5.alloc (.cells #[.int .i64 500] 3)).alloc (.cells #[.int .i64 500] 3)) (Y + 1) (.slice (some ⟨w5.heap.size + 1, 0, none⟩) 1 1) [500] := ⟨_, 1, 1, rfl, .inr ⟨w5.heap.size + 1, rfl, by omega, by have := one_own (w5.alloc (.cells #[.int .i64 500] 3)) 500; simpa using this⟩⟩
          have h2c := two_cell ((w5.alloc (.cells #[.int .i64 500] 3)).alloc (.cells #[.int .i64 500] 3)) (.slice (some ⟨w5.heap.size, 0, none⟩) 1 1) (.slice (some ⟨w5.heap.size + 1, 0, none⟩) 1 1) 33
          simp only [World.size_alloc] at h2c
          go_wp2_with (first
            | (at_builtin; refine wpList_append_ss rfl _ _ rfl (Y + 1) _ m sss rfl (((hS5.alloc _).alloc _).alloc _) ⟨w5.heap.size + 1 + 1, 0, none⟩ 2 2 [.slice (some ⟨w5.heap.size, 0, none⟩) 1 1, .slice (some ⟨w5.heap.size + 1, 0, none⟩) 1 1] [[500], [500]] rfl rfl rfl h2c (two_sl (hfh.alloc _) (hfi.alloc _)) (by simp [Value.oneCell']) (by omega) (by simp; omega) ?_; intro v6 w6 hr6 hg6
               have hVY6 := (((hVY5.alloc _).alloc _).alloc _).apart hg6 (by intro e; have := hrow6 _ e; omega)
               have hVR6 := (((hVR5.alloc _).alloc _).alloc _).apart hg6 (by intro e; have := hrow6 _ e; omega)
               have hrd6 := (((hr5.alloc _).alloc _).alloc _).apart hg6 hrow6 (by omega)
               have hon6 := only_apart (only_alloc (only_alloc (only_alloc hon5 _) _) _) hg6 hrow6 (by omega)
               obtain ⟨d0, d1, k0, k1⟩ := hVY6.cells
               obtain ⟨s0, s1, j0, j1⟩ := hVR6.cells
               have hYl6 := hVY6.lt
               have hRl6 := hVR6.lt
               obtain ⟨A6, c6, rfl, _, _⟩ := hr6.stk
               clear hg6 c0 c1 f0 f1 r0 r1 e0 e1))
          refine bodyPost_ret (v := ?_) ?_ rfl ?_
          rotate_left
          · simp [results, Try.results56, go_sem, s0, s1]; rfl
          · refine yard_mk (b := Y + 1) (n := ?_) (sss := ?_) (M := ?_) ?_ (by omega) ?_ ?_ ?_ ?_
            rotate_left 3
            · (repeat' (first | with_reducible assumption | with_reducible refine SS.alloc ?_ _ | with_reducible refine SS.setCell ?_ ?_ _ | (simp; done) | (simp; omega) | omega))
            · omega
            · (repeat' (first | with_reducible assumption | with_reducible apply RdOk.alloc | with_reducible apply RdOk.drew | with_reducible apply RdOk.drewN | with_reducible apply RdOk.setCell | (simp; done) | (simp; omega) | omega))
            · omega
            · (repeat' (first | with_reducible exact World.grownBy.refl _ _ | with_reducible assumption | with_reducible refine only_step (by with_reducible assumption) ?_ | with_reducible refine only_below (by with_reducible assumption) ?_ | with_reducible refine only_drew ?_ | with_reducible refine only_drewN ?_ _ | with_reducible refine only_alloc ?_ _ | with_reducible refine only_setCell ?_ ?_ _ | (simp; done) | (simp; omega) | omega))
        · obtain ⟨gA, rfl⟩ : ∃ gA, A = some ⟨gA, 0, none⟩ := by
            obtain ⟨vs, ⟨_, h2⟩, _⟩ := hS5
            rcases h2 with ⟨e, h0⟩ | ⟨gA, cap, cur, e, _⟩
            · exact absurd h0 (by omega)
            · simp only [Value.slice.injEq] at e
              exact ⟨gA, e.1⟩
          obtain ⟨u0, k0, k1⟩ : ∃ u0, w5.cell? ⟨gA, 0, none⟩ = some u0 ∧ w5.frozen? ⟨gA, 0, none⟩ = false := by
            obtain ⟨vs, ⟨h1, h2⟩, _⟩ := hS5
            rcases h2 with ⟨e, h0⟩ | ⟨g1, cap, cur, e, _, hh, hnc, _, hcs, _⟩
            · exact absurd h0 (by omega)
            · simp only [Value.slice.injEq, Option.some.injEq, Addr.mk.injEq] at e
              obtain ⟨⟨rfl, _⟩, _⟩ := e
              exact ⟨cur[0]'(by omega), by rw [cell_of_row _ _ _ _ _ _ hh]; simp, by simp [World.frozen?, hh]⟩
          obtain ⟨_, _, e6, _, hA6⟩ := hS5.stk
          obtain ⟨hA7, hA8⟩ := hA6 ⟨gA, 0, none⟩ (by simp only [Value.slice.injEq] at e6; rw [← e6.1])
          simp at hA7 hA8
          clear e6 hA6
          have hmk3 : ∀ W, (Instr.makeSlice 33 (.int .i64 3) (.int .i64 3)).run Try.prog W = .ok (.slice (some ⟨W.heap.size, 0, none⟩) 3 3) (W.alloc (.cells (zeros 3) 3)) := run_zeros 3 (by omega)
          have hm0 : (0 : Int) < m := by omega
          have hm0' : 0 < m := by omega
          have hz3 : SlOwn (w5.drew.alloc (.cells (zeros 3) 3)) (Y + 1) (.slice (some ⟨w5.heap.size, 0, none⟩) 3 3) (List.replicate 3 0) := ⟨_, 3, 3, rfl, .inr ⟨w5.heap.size, rfl, by omega, zeros_own w5.drew 3 (by unfold maxLen; omega)⟩⟩
          have hS6 : SS (w5.drew.alloc (.cells (zeros 3) 3)) (Y + 1) (.slice (some ⟨gA, 0, none⟩) m c) m sss := SS.alloc (w := w5.drew) hS5 _
          have hS7 := hS6.put (k := 0) (by omega) hz3
          have hnA : ¬ gA = Y := by omega
          have hnA' : ¬ Y = gA := by omega
          have hnR : ¬ w.heap.size = gA := by omega
          have hnR' : ¬ gA = w.heap.size := by omega
          go_wp2_with (fail)
          go_region_held3 (fun w' => w'.cell? ⟨Y, 1, none⟩ = some (.slice (some ⟨gA, 0, none⟩) m c)) (go_keep) (fail)
          go_wp2_with (fail)
          have hS9 := (hS7.setCell (p := ⟨w.heap.size, 0, none⟩) (by simp; omega) (.int .i64 hi)).setCell (p := ⟨w.heap.size, 1, none⟩) (by simp; omega) (.slice (some ⟨gA, 0, none⟩) m c)
          refine bodyPost_ret (v := ?_) ?_ rfl ?_
          rotate_left
          · simp [results, Try.results56, go_sem, r0, r1, hrl5]; rfl
          · refine yard_mk (b := Y + 1) (n := m) (sss := sss.set 0 (List.replicate 3 0)) (M := ?_) ?_ (by omega) ?_ ?_ ?_ ?_
            rotate_left
            · rw [World.alloc_drew, World.setCell_drew, World.setCell_alloc_past _ _ _ _ hA8, World.setCell_drew, World.setCell_alloc_past _ _ _ _ (by simpa [World.setCell] using hrl5), World.setCell_drew, World.setCell_alloc_past _ _ _ _ (by simpa [World.setCell] using hrl5)] at hS9
              exact hS9
            · omega
            · (repeat' (first | with_reducible assumption | with_reducible apply RdOk.alloc | with_reducible apply RdOk.drew | with_reducible apply RdOk.drewN | with_reducible apply RdOk.setCell | (simp; done) | (simp; omega) | omega))
            · omega
            · (repeat' (first | with_reducible exact World.grownBy.refl _ _ | with_reducible assumption | with_reducible refine only_step (by with_reducible assumption) ?_ | with_reducible refine only_below (by with_reducible assumption) ?_ | with_reducible refine only_drew ?_ | with_reducible refine only_drewN ?_ _ | with_reducible refine only_alloc ?_ _ | with_reducible refine only_setCell ?_ ?_ _ | (simp; done) | (simp; omega) | omega))
    | succ k =>
      have hk0 : (0 : Int) < ((k + 1 : Nat) : Int) := by omega
      have hw1 : IntKind.i64.wrap (hi + 1) = hi + 1 := IntWalk.i64_in _ (by omega)
      obtain ⟨S0, hS0e⟩ : ∃ S0, wr.heap.size = S0 := ⟨_, rfl⟩
      have hrow0 := empty_row (w := wr) (B := S0) (by omega)
      obtain ⟨wb, hwb⟩ : ∃ wb, wr = wb := ⟨_, rfl⟩
      have hSb : SS wb (Y + 1) (.slice A m c) m sss := hwb ▸ hS
      have hVYb : Vr wb Y hi (.slice A m c) := hwb ▸ hVY
      have hVRb : Vr wb w.heap.size 0 (.slice none 0 0) := hwb ▸ hVR
      have honb : w.grownBy wb (some g) := hwb ▸ hon
      have hgb0 : wb.grownBy (wr.alloc (.cells #[] 3)) (some g) := hwb ▸ only_alloc (World.grownBy.refl _ _) _
      have hzb : wb.heap.size = S0 := hwb ▸ hS0e
      clear hwb
      have hYS : Y < S0 := by omega
      have hgS : g < S0 := by omega
      have hSS : S0 ≤ wr.heap.size := by omega
      clear hS0e
      have hng : ¬ wr.heap.size = g := by omega
      go_wp2_with (fail)
      refine (pick_any _ _ _ _ _ (hrd.alloc _) (by omega)).mono ?_
      rintro e w4 ⟨x4, rfl, hx4, hy4, hr4, hg4⟩
      have hVY4 := (hVY.alloc _).apart hg4 (by intro e; injection e with e; omega)
      obtain ⟨c0, c1, f0, f1⟩ := hVY4.cells
      have hYl4 := hVY4.lt
      have hrow4 := hrow0.pick hg4 (by omega)
      have hgb4 := only_step hg4 hgb0
      have hs4 := hg4.size
      simp at hs4
      have hx4' : x4 ≤ 4 := by omega
      have Hzb := Lib.hid hzb
      clear hS hVY hVR hrow0 hrd hon hg4 hgb0 hVY4 hzb
      go_wp2_with (fail)
      go_loopw [6, 8, 9] (fun i s q wi => ∃ (j M' k' : Nat) (xs : List Int) (d : Int), RowI wi S0 s j xs ∧ i = .int .i64 d ∧ q = .int .i64 (k' : Int) ∧ j + k' ≤ 5 ∧ RdOk wi B g M' ∧ M' + k' ≤ M + 5 ∧ wb.grownBy wi (some g)) (fun _ _ q _ => (intOf q).toNat)
      case atStart =>
        obtain ⟨k', rfl⟩ := Int.eq_ofNat_of_zero_le hx4
        exact ⟨0, _, k', [], _, hrow4, rfl, rfl, by omega, hr4, by omega, hgb4⟩
      case round =>
        clear hrow4 hr4 hgb4 c0 c1 f0 f1 hYl4
        obtain ⟨j, M', k', xs, d', hrow, rfl, rfl, hjk, hrd, hM', hin⟩ := hrel
        have hsi := hin.size
        rw [Hzb.out] at hsi
        cases k' with
        | zero =>
          have hS5 := hSb.pick hin (by omega)
          have hVY5 := hVYb.apart hin (by intro e; injection e with e; omega)
          have hVR5 := hVRb.apart hin (by intro e; injection e with e; omega)
          have hon5 := only_step hin honb
          have hs5 := hon5.size
          have hlt5 := hrd.lt
          obtain ⟨c0, c1, f0, f1⟩ := hVY5.cells
          have hYl5 := hVY5.lt
          clear hSb hVYb hVRb honb hin
          obtain ⟨A7, c7, rfl, ho7⟩ := hrow.own
          have hu : SlOwn wr (Y + 1) (.slice A7 j c7) xs := ⟨A7, j, c7, rfl, ho7.less (by omega)⟩
          clear hrow ho7
          go_wp2_with (first
            | (at_builtin; refine wpList_append_ss rfl _ _ rfl (Y + 1) _ m sss rfl (hS5.alloc _) ⟨wr.heap.size, 0, none⟩ 1 1 [.slice A7 j c7] [xs] rfl rfl rfl (one_cell _ _ _) (one_sl (hu.alloc _)) (by simp [Value.oneCell']) (by omega) (le_alloc (by omega) _) ?_; intro v6 w6 hr6 hg6
               have hrow6 := hS5.row
               have hVY6 := (hVY5.alloc _).apart hg6 (by intro e; have := hrow6 _ e; omega)
               have hVR6 := (hVR5.alloc _).apart hg6 (by intro e; have := hrow6 _ e; omega)
               have hrd6 := (hrd.alloc _).apart hg6 hrow6 (by omega)
               have hon6 := only_apart (only_alloc hon5 _) hg6 hrow6 (by omega)
               obtain ⟨d0, d1, k0, k1⟩ := hVY6.cells
               have hYl6 := hVY6.lt
               obtain ⟨A6, c6, rfl, _, _⟩ := hr6.stk
               clear hg6 c0 c1 f0 f1))
          exact ⟨⟨m + 1, M', k, sss ++ [xs], d', A6, c6, rfl, by go_num, by omega, by omega, hr6.setCell (by simp) _, hVY6.put _, hVR6.setCell (by simp; omega) _, hrd6.setCell (by simp; omega) (by simp; have := hrd6.ge; omega) _, by omega, only_setCell hon6 (by simp; omega) _⟩, by simp [intOf]⟩
        | succ k' =>
          have hk1 : (0 : Int) < ((k' + 1 : Nat) : Int) := by omega
          have hw2 : IntKind.i64.wrap (k' : Int) = k' := IntWalk.i64_in _ (by omega)
          have hs6 : S0 ≤ wr.heap.size := by omega
          go_wp2_with (first
            | (at_builtin; refine wpList_append_ints rfl _ _ rfl S0 _ j xs rfl (hrow.alloc _) (some ⟨wr.heap.size, 0, none⟩) 1 1 [d'] rfl (one_ints _ _) (by omega) (le_alloc hs6 _) ?_; intro v5 w5 hr5 hg5
               have hon5 := only_row (only_alloc hin _) (hrow.alloc _) hg5 (by rw [Hzb.out]; exact Nat.le_refl _)
               have hrd5 := (hrd.alloc _).row (hrow.alloc _) hg5 (by omega)
               clear hg5)
            | (go_at_call 59; refine (pick_any _ _ _ _ _ hrd5 (by omega)).mono ?_; rintro e w6 ⟨x6, rfl, hx6, hy6, hr6, hg6⟩
               have hr7 := hr5.pick hg6 (by omega)
               have hon6 := only_step hg6 hon5))
          exact ⟨⟨j + 1, M' + 1, k', xs ++ [d'], _, hr7, rfl, rfl, by omega, hr6, by omega, hon6⟩, by simp [intOf]⟩
end Go.Proofs.Yteghialkkhmggaa
