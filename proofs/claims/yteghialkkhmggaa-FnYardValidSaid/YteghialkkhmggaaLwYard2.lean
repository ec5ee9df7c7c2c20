/- The walk of the law FnYardValid. Conditions: that the code reads as bytes. -/
import Derived.Test.YteghialkkhmggaaLwYard1
import Derived.Test.YteghialkkhmggaaInvR
namespace Go.Proofs.Yteghialkkhmggaa
open Go.RowKit
set_option linter.unusedVariables false

theorem yardB_nil (hi : Int) : yardB hi [] = false := by simp [yardB, inR]
theorem stackB_empty {hi : Int} (h : inR hi 1 5 = true) : stackB [] hi = true := by
  simp [stackB, h, okB]
  have := inR_iff.1 h
  omega
theorem yardB_more {hi : Int} {sss : List (List Int)} (h : yardB hi sss = true) (hl : sss.length ≠ 5) : yardB hi (sss ++ [[]]) = true := by
  skip
  simp only [yardB, Bool.and_eq_true, List.all_eq_true, decide_eq_true_eq] at h ⊢
  obtain ⟨⟨h1, h2⟩, h3⟩ := h
  refine ⟨⟨?_, ?_⟩, by simpa using h3⟩
  · have := inR_iff.1 h1
    refine inR_yes ⟨by simp; omega, by simp; omega⟩
  · intro s hs
    rcases List.mem_append.1 hs with hs | hs
    · exact h2 s hs
    · obtain rfl : s = [] := by simpa using hs
      have h0 : 0 < sss.length := by have := inR_iff.1 h1; omega
      exact stackB_empty (stackB_high (h2 (sss[0]) (List.getElem_mem _))).1

theorem IsStk.none {w : World} {A : Option Addr} {n c : Nat} {sss : List (List Int)} (h : IsStk w A n c sss) (e : A = none) : c = 0 ∧ n = 0 := by
  have h1 := h.1
  have h2 := h.2.2.2.1 e
  omega
theorem stk_nil (w : World) : IsStk w none 0 0 [] := ⟨Nat.le_refl _, Nat.zero_le _, rfl, fun _ => rfl, fun h => absurd h (by omega)⟩
abbrev RowVals (w : World) (A : Option Addr) (n : Nat) (sss : List (List Int)) (vs : List Value) : Prop :=
  ∀ i, i < n → ∃ Ai ni ci, vs.getD i undef = .slice Ai ni ci ∧ (∀ b off, A = some ⟨b, off, none⟩ → w.cell? ⟨b, off + i, none⟩ = some (vs.getD i undef)) ∧ Ints w Ai ni ci (sss.getD i [])
theorem src_cell {w w' : World} {A : Option Addr} {n c : Nat} {sss : List (List Int)} {vs : List Value} (h : IsStk w A n c sss) (hl : vs.length = n) (hv : RowVals w A n sss vs) (hb : Below w.heap.size w w') (ad : Addr) (e : A = some ad) (j : Nat) (u : Value) (hu : vs[j]? = some u) : w'.cell? (ad.add j) = some u := by
  have hj : j < n := by
    have := (List.getElem?_eq_some_iff.1 hu).1
    omega
  obtain ⟨b, off, Ai, ni, ci, e2, hlt, _⟩ := h.at_ hj
  rw [e] at e2
  injection e2 with e2
  subst e2
  obtain ⟨_, _, _, _, h2, _⟩ := hv j hj
  rw [add_off, (hb.cell (p := ⟨b, off + j, none⟩) hlt).trans (h2 b off e)]
  simp [List.getD, hu]
theorem rows_one {w : World} {A : Option Addr} {n : Nat} {sss : List (List Int)} {vs : List Value} (hl : vs.length = n) (hv : RowVals w A n sss vs) : ∀ u ∈ vs, u.oneCell' = true := by
  intro u hu
  obtain ⟨j, hj, rfl⟩ := List.mem_iff_getElem.1 hu
  obtain ⟨_, _, _, e, _⟩ := hv j (by omega)
  have : vs[j] = vs.getD j undef := by simp [List.getD, hj]
  rw [this, e]
  rfl

set_option maxHeartbeats 6400000 in
set_option maxRecDepth 20000 in
theorem fnYardValid_walk (A : Option Addr) (n c : Nat) (zs : List Int) (w : World) (h : IsRow .u8 w A n c zs) :
    Calls Try.prog 8 #[.slice A n c] w fun e w' => e = .returned (.bool true) ∧ Below w.heap.size w w' := by
  by_cases hn : 1048576 < n
  · have hn' : (1048576 : Int) < n := by omega
    clear h
    go_enter Try.func8, Try.ntmps8
    go_wp2_with (fail)
    go_ret
    exact ⟨rfl, (by repeat' (first | with_reducible exact Below.refl _ _ | with_reducible assumption | with_reducible refine bel_step (by with_reducible assumption) ?_ ?_ | with_reducible refine Below.drew ?_ | with_reducible refine below_drewN ?_ _ | with_reducible refine Below.alloc ?_ ?_ _ | with_reducible refine Below.setCell ?_ ?_ _ | (simp; done) | (simp; omega) | omega | with_reducible refine below_le (by with_reducible assumption) ?_))⟩
  · have hn' : (n : Int) ≤ 1048576 := by omega
    have H := Lib.hid h
    clear h hn
    go_enter Try.func8, Try.ntmps8
    go_wp2_with (fail)
    refine (drawYardValid_any _ _ _ _ _ H.out).mono ?_
    rintro e w1 ⟨hi, A1, n1, c1, sss, rfl, hS, hn1, hb1⟩
    obtain ⟨A2, c2, e2, hI, _⟩ := hS.stk
    simp only [Value.slice.injEq, true_and] at e2
    obtain ⟨rfl, rfl⟩ := e2
    have hs1 := hb1.size
    have hl := hI.length
    have hyd : Yd (w1.alloc (.cells #[.int .i64 hi, .slice A1 n1 c1] 27)) w1.heap.size hi A1 n1 c1 := ⟨by simp, by go_simp, by go_simp⟩
    have hI := hI.alloc (.cells #[.int .i64 hi, .slice A1 n1 c1] 27)
    have hb1 := hb1.alloc hs1 (.cells #[.int .i64 hi, .slice A1 n1 c1] 27)
    have hs1 := hb1.size
    go_wp2_with (fail)
    refine (implYardValid_any _ _ _ _ _ _ hI).mono ?_
    rintro e w2 ⟨rfl, hb2⟩
    have hb3 := hb1.trans (hb2.mono hs1)
    have hs3 := hb3.size
    have hI3 := hI.below hb2
    have hyd3 := hyd.below hb2
    obtain ⟨y3, p0, p1⟩ := id hyd3
    clear hI hb1 hb2 hyd
    go_wp2_with (fail)
    refine (specYardValid_any _ _ _ _ _ _ hI3 (by omega)).mono ?_
    rintro e w4 ⟨rfl, hb4⟩
    have hb5 := hb3.trans (hb4.mono hs3)
    have hs5 := hb5.size
    have hI5 := hI3.below hb4
    have hyd5 := hyd3.below hb4
    clear hI3 hb3 hb4 hs3 hyd3 y3 p0 p1
    obtain ⟨y3, p0, p1⟩ := id hyd5
    obtain ⟨vs, hvl, hvs⟩ := list_of_each undef n1 (fun i u => ∃ Ai ni ci, u = .slice Ai ni ci ∧ (∀ b off, A1 = some ⟨b, off, none⟩ → w4.cell? ⟨b, off + i, none⟩ = some u) ∧ Ints w4 Ai ni ci (sss.getD i [])) (by
      intro i hi
      obtain ⟨b, off, Ai, ni, ci, e, _, h6, h7⟩ := hI5.at_ hi
      refine ⟨_, Ai, ni, ci, rfl, ?_, h7⟩
      intro b' off' e'
      rw [e] at e'
      injection e' with e'
      injection e' with e1 e2
      subst e1 e2
      exact h6)
    go_wp2_with (fail)
    generalize Value.bool (decide ((1048576 : Int) < (n : Int))) = uB
    · skip
      refine wp_region_any (by kernel_rfl) ?_
      refine wpAny_inv (fun listed a w' => ∃ (b0 b1 b2 b3 b4 b5 b6 b7 b8 b9 b10 b11 : Bool) (t5 t17 t18 t19 t20 t21 t22 t23 t24 t25 t26 : Value), listed = #[b0, b1, b2, b3, b4, b5, b6, b7, b8, b9, b10, b11] ∧ a = {
      tmps := (Value.slice A n c :: undef :: Value.bool false :: Value.pointer (some ⟨w1.heap.size, 0, none⟩) :: Value.bool (yardB hi sss) :: t5 :: Value.slice A n c :: Value.int IntKind.i64 n :: uB :: Value.slice A n c :: Value.agg (Value.int IntKind.i64 hi :: Value.slice A1 n1 c1 :: []).toArray :: Value.agg (Value.int IntKind.i64 hi :: Value.slice A1 n1 c1 :: []).toArray :: Value.bool (yardB hi sss) :: Value.bool (yardB hi sss) :: Value.agg (Value.int IntKind.i64 hi :: Value.slice A1 n1 c1 :: []).toArray :: Value.bool (yardB hi sss) :: Value.bool false :: t17 :: t18 :: t19 :: t20 :: t21 :: t22 :: t23 :: t24 :: t25 :: t26 :: undef :: undef :: undef :: undef :: undef :: undef :: undef :: undef :: undef :: undef :: undef :: undef :: undef :: undef :: undef :: undef :: undef :: undef :: undef :: undef :: undef :: undef :: []).toArray,
      defers := [] } ∧ Mr w4 w1.heap.size hi A1 n1 c1 vs b0 b1 b2 b3 b4 b5 b6 b7 b8 b9 b10 b11 t5 t17 t18 t19 t20 t21 t22 t23 t24 t25 t26 w') ?_ ?_ _ _ _ _ (by decide) ?_
      rotate_left
      · rintro listed a w' i ⟨b0, b1, b2, b3, b4, b5, b6, b7, b8, b9, b10, b11, t5, t17, t18, t19, t20, t21, t22, t23, t24, t25, t26, rfl, rfl, hM⟩ him
        obtain ⟨hj, o, ho, hd⟩ := mem_ready.1 him
        have hlt : i < 12 := (Array.getElem?_eq_some_iff.1 ho).1
        rcases (show i = 0 ∨ i = 1 ∨ i = 2 ∨ i = 3 ∨ i = 4 ∨ i = 5 ∨ i = 6 ∨ i = 7 ∨ i = 8 ∨ i = 9 ∨ i = 10 ∨ i = 11 by omega) with rfl | rfl | rfl | rfl | rfl | rfl | rfl | rfl | rfl | rfl | rfl | rfl
        all_goals
          obtain rfl := Option.some.inj ho
          simp at hj
          subst hj
          simp [Region.binds] at hd
          refine wpOp_step rfl (fun K hK => ?_)
        · go_simp
          refine hK _ _ ⟨true, b1, b2, b3, b4, b5, b6, b7, b8, b9, b10, b11, t5, _, t18, t19, t20, t21, t22, t23, t24, t25, t26, rfl, rfl, { hM with h0 := fun _ => rfl }⟩
        · obtain rfl := hM.h0 hd
          have q0 := (hM.base.cell (p := ⟨w1.heap.size, 0, none⟩) y3).trans p0
          go_simp
          refine hK _ _ ⟨b0, true, b2, b3, b4, b5, b6, b7, b8, b9, b10, b11, t5, _, _, t19, t20, t21, t22, t23, t24, t25, t26, rfl, rfl, { hM with h1 := fun _ => rfl }⟩
        · go_simp
          refine hK _ _ ⟨b0, b1, true, b3, b4, b5, b6, b7, b8, b9, b10, b11, t5, t17, t18, _, t20, t21, t22, t23, t24, t25, t26, rfl, rfl, { hM.alloc (.cells #[] 33) with h2 := fun _ _ => ⟨_, rfl, hM.base.size, heap_alloc_new _ _⟩ }⟩
        · go_simp
          refine hK _ _ ⟨b0, b1, b2, true, b4, b5, b6, b7, b8, b9, b10, b11, t5, t17, t18, t19, _, t21, t22, t23, t24, t25, t26, rfl, rfl, { hM with h3 := fun _ => rfl }⟩
        · obtain rfl := hM.h3 hd
          have q1 := (hM.base.cell (p := ⟨w1.heap.size, 1, none⟩) y3).trans p1
          go_simp
          refine hK _ _ ⟨b0, b1, b2, b3, true, b5, b6, b7, b8, b9, b10, b11, t5, t17, t18, t19, _, _, t22, t23, t24, t25, t26, rfl, rfl, { hM with h4 := fun _ => rfl }⟩
        · obtain rfl := hM.h4 hd.2
          obtain ⟨g, rfl, hg, hh⟩ := hM.h2 hd.1 rfl
          refine step_rows (by rfl) _ _ rfl w4.heap.size (.slice (some ⟨g, 0, none⟩) 0 0) 0 [] rfl ⟨rfl, .inr ⟨g, 0, #[], rfl, hg, hh, Nat.le_refl _, Nat.zero_le _, rfl, rfl⟩⟩ A1 n1 c1 vs rfl hI5.none hvl (fun ad e j u hu => src_cell hI5 hvl hvs hM.base ad e j u hu) (rows_one hvl hvs) (by omega) hM.base.size ?_
          intro v' w8 hr hgr
          rw [Nat.zero_add, List.nil_append] at hr
          have hb8 : Below w4.heap.size w' w8 := ⟨hgr.os, hgr.tape, hgr.output, hgr.size, fun k hk => hgr.block k (Nat.lt_of_lt_of_le hk hM.base.size) (fun e => by simp only [Value.ownBlock, Option.some.injEq] at e; omega)⟩
          have hk8 : ∀ (k : Nat) o, w'.heap[k]? = some o → o ≠ .cells #[] 33 (0, 0) → w8.heap[k]? = some o := by
            intro k o ho hne
            refine (hgr.block k (heap_lt' ho) (fun e => ?_)).trans ho
            simp only [Value.ownBlock, Option.some.injEq] at e
            subst e
            rw [hh] at ho
            exact hne (Option.some.inj ho).symm
          refine hK _ _ ⟨b0, b1, b2, b3, b4, true, b6, b7, b8, b9, b10, b11, t5, t17, t18, _, t20, _, v', t23, t24, t25, t26, rfl, rfl, { hM with
              base := hM.base.trans hb8
              h2 := fun _ e => absurd e (by decide)
              h5 := fun _ _ => hr
              h6 := fun e1 => by
                obtain ⟨k, k1, k2, k3⟩ := hM.h6 e1
                exact ⟨k, k1, k2, hk8 _ _ k3 (by simp)⟩
              h7 := fun e1 e2 => by
                obtain ⟨k, k1, k2, k3⟩ := hM.h7 e1 e2
                exact ⟨k, k1, k2, hk8 _ _ k3 (by simp)⟩
              h8 := no_tf fun e => (hM.d8 e).1
              h10 := fun e1 => by
                obtain ⟨k, k1, k2, k3, k4⟩ := hM.h10 e1
                exact ⟨k, k1, k2, fun e => hk8 _ _ (k3 e) (by simp), fun e => hk8 _ _ (k4 e) (by simp)⟩
              d8 := fun e => ⟨rfl, (hM.d8 e).2⟩ }⟩
        · go_simp
          refine hK _ _ ⟨b0, b1, b2, b3, b4, b5, true, b7, b8, b9, b10, b11, t5, t17, t18, t19, t20, t21, t22, _, t24, t25, t26, rfl, rfl, { hM.alloc (.cells #[] 3) with
              h6 := fun _ => ⟨_, rfl, hM.base.size, heap_alloc_new _ _⟩
              h7 := no_tf hM.d7
              h8 := no_tf fun e => hM.d7 (hM.d8 e).2
              d7 := fun _ => rfl }⟩
        · obtain ⟨g, rfl, hg, hh⟩ := hM.h6 hd
          go_simp
          refine hK _ _ ⟨b0, b1, b2, b3, b4, b5, b6, true, b8, b9, b10, b11, t5, t17, t18, t19, t20, t21, t22, _, _, t25, t26, rfl, rfl, { hM.alloc (.cells #[.slice (some ⟨g, 0, none⟩) 0 0] 33) with
              h7 := fun _ _ => ⟨_, rfl, hM.base.size, heap_alloc_new _ _⟩
              d7 := fun _ => hd
              d8 := fun e => ⟨(hM.d8 e).1, rfl⟩ }⟩
        · obtain ⟨g, rfl, hg, hh⟩ := hM.h7 hd.2.1 rfl
          have hr5 := hM.h5 hd.1 rfl
          obtain ⟨g6, e6, hg6, hh6⟩ := hM.h6 (hM.d7 hd.2.1)
          refine step_rows (by rfl) _ _ rfl w4.heap.size t22 n1 vs rfl hr5 (some ⟨g, 0, none⟩) 1 1 [t23] rfl (fun e => by cases e) rfl (fun ad e j u hu => by
              injection e with e
              subst e
              rw [add_off, cell_of_row _ _ _ _ _ _ hh]
              simpa using hu) (by
            intro u hu
            have e : u = t23 := by simpa using hu
            rw [e, e6]
            rfl) (by omega) hM.base.size ?_
          intro v' w8 hr hgr
          have hb8 : Below w4.heap.size w' w8 := ⟨hgr.os, hgr.tape, hgr.output, hgr.size, fun k hk => hgr.block k (Nat.lt_of_lt_of_le hk hM.base.size) (fun e => by have := hr5.lt k e.symm; omega)⟩
          have hk8 : ∀ (k : Nat) o, w'.heap[k]? = some o → (∀ cs, o ≠ .cells cs 33 (0, 0)) → w8.heap[k]? = some o := by
            intro k o ho hne
            refine (hgr.block k (heap_lt' ho) (fun e => ?_)).trans ho
            rcases hr5.2 with ⟨e2, _⟩ | ⟨g1, cap, cur, e2, _, h2, _⟩
            · rw [e2] at e; cases e
            · rw [e2] at e
              simp only [Value.ownBlock, Option.some.injEq] at e
              subst e
              rw [h2] at ho
              exact hne _ (Option.some.inj ho).symm
          refine hK _ _ ⟨b0, b1, b2, b3, b4, b5, b6, b7, true, b9, b10, b11, t5, t17, t18, t19, t20, t21, t22, t23, _, v', t26, rfl, rfl, { hM with
              base := hM.base.trans hb8
              h2 := fun _ e => absurd (hd.1.symm.trans e) (by decide)
              h5 := fun _ e => absurd e (by decide)
              h6 := fun e1 => by
                obtain ⟨k, k1, k2, k3⟩ := hM.h6 e1
                exact ⟨k, k1, k2, hk8 _ _ k3 (by simp)⟩
              h7 := fun _ e => absurd e (by decide)
              h8 := fun _ => hr
              h9 := no_tf hM.d9
              h10 := fun e1 => by
                obtain ⟨k, k1, k2, k3, k4⟩ := hM.h10 e1
                exact ⟨k, k1, k2, fun e => hk8 _ _ (k3 e) (by simp), no_tf fun e => hM.d9 (hM.d11 e).1⟩
              d8 := fun _ => ⟨hd.1, hd.2.1⟩
              d9 := fun _ => rfl }⟩
        · obtain rfl := hM.h1 hd.1
          have hr8 := hM.h8 hd.2
          rcases id hr8.2 with ⟨_, e0⟩ | ⟨g, cap, cur, rfl, _⟩
          · omega
          · go_simp
            refine hK _ _ ⟨b0, b1, b2, b3, b4, b5, b6, b7, b8, true, b10, b11, t5, t17, _, t19, t20, t21, t22, t23, t24, _, _, rfl, rfl, { hM with h9 := fun _ => rfl, d9 := fun _ => hd.2, d11 := fun e => ⟨rfl, (hM.d11 e).2⟩ }⟩
        · go_simp
          refine hK _ _ ⟨b0, b1, b2, b3, b4, b5, b6, b7, b8, b9, true, b11, _, t17, t18, t19, t20, t21, t22, t23, t24, t25, t26, rfl, rfl, { hM.alloc (.cells #[.int .i64 0, .slice none 0 0] 27) with
              h10 := fun _ => ⟨_, rfl, hM.base.size, fun _ => heap_alloc_new _ _, no_tf fun e => (hM.d11 e).2⟩
              d11 := fun e => ⟨(hM.d11 e).1, rfl⟩ }⟩
        · obtain rfl := hM.h9 hd.2.1
          have hr8 := hM.h8 hd.2.2.1
          obtain ⟨g, rfl, hg, hh, _⟩ := hM.h10 hd.1
          have hh := hh rfl
          have z0 : w'.cell? ⟨g, 0, none⟩ = some (.int .i64 0) := by simp [World.cell?, hh]
          have z1 : w'.cell? ⟨g, 1, none⟩ = some (.slice none 0 0) := by simp [World.cell?, hh]
          have z2 : w'.frozen? ⟨g, 0, none⟩ = false := by simp [World.frozen?, hh]
          have z3 : w'.frozen? ⟨g, 1, none⟩ = false := by simp [World.frozen?, hh]
          rcases id hr8.2 with ⟨_, e0⟩ | ⟨g8, cap, cur, rfl, _⟩
          · omega
          · go_simp
            have hk8 : ∀ (k : Nat) o, w'.heap[k]? = some o → (∀ cs, o ≠ .cells cs 27 (0, 0)) → ((w'.setCell ⟨g, 0, none⟩ (.int .i64 hi)).setCell ⟨g, 1, none⟩ (.slice (some ⟨g8, 0, none⟩) (n1 + 1) cap)).heap[k]? = some o := by
              intro k o ho hne
              have hkg : k ≠ g := by
                rintro rfl
                rw [hh] at ho
                exact hne _ (Option.some.inj ho).symm
              rw [Below.heap_setCell _ _ _ k hkg, Below.heap_setCell _ _ _ k hkg]
              exact ho
            refine hK _ _ ⟨b0, b1, b2, b3, b4, b5, b6, b7, b8, b9, b10, true, _, t17, t18, t19, t20, t21, t22, t23, t24, _, _, rfl, rfl, { hM with
              base := (hM.base.setCell hg _).setCell hg _
              h2 := fun _ e => absurd (hd.2.2.2.2.2.2.2.2.1.symm.trans e) (by decide)
              h5 := fun _ e => absurd (hd.2.2.1.symm.trans e) (by decide)
              h6 := fun e1 => by
                obtain ⟨k, k1, k2, k3⟩ := hM.h6 e1
                exact ⟨k, k1, k2, hk8 _ _ k3 (by simp)⟩
              h7 := fun _ e => absurd (hd.2.2.1.symm.trans e) (by decide)
              h8 := fun e1 => (hM.h8 e1).keep fun k cs e => (hk8 _ _ e (by simp)).trans e.symm
              h10 := fun e1 => ⟨g, rfl, hg, fun e => absurd e (by decide), fun _ => by simp [World.setCell, Array.getElem?_modify, hh]⟩
              d11 := fun _ => ⟨hd.2.1, hd.1⟩ }⟩
      · refine ⟨false, false, false, false, false, false, false, false, false, false, false, false, undef, undef, undef, undef, undef, undef, undef, undef, undef, undef, undef, rfl, rfl, ⟨(Below.refl _ _).drew, ?_, ?_, ?_, ?_, ?_, ?_, ?_, ?_, ?_, ?_, ?_, ?_, ?_, ?_, ?_⟩⟩ <;> exact fun e => absurd e (by decide)
      rintro listed a w' ⟨b0, b1, b2, b3, b4, b5, b6, b7, b8, b9, b10, b11, t5, t17, t18, t19, t20, t21, t22, t23, t24, t25, t26, rfl, rfl, hM⟩ hr
      rw [List.eq_nil_iff_forall_not_mem] at hr
      obtain rfl : b0 = true := by
        cases b0
        · exact (hr 0 (mem_ready.2 ⟨rfl, _, rfl, by simp [Region.binds]⟩)).elim
        · rfl
      obtain rfl : b1 = true := by
        cases b1
        · exact (hr 1 (mem_ready.2 ⟨rfl, _, rfl, by simp [Region.binds]⟩)).elim
        · rfl
      obtain rfl : b2 = true := by
        cases b2
        · exact (hr 2 (mem_ready.2 ⟨rfl, _, rfl, by simp [Region.binds]⟩)).elim
        · rfl
      obtain rfl : b3 = true := by
        cases b3
        · exact (hr 3 (mem_ready.2 ⟨rfl, _, rfl, by simp [Region.binds]⟩)).elim
        · rfl
      obtain rfl : b4 = true := by
        cases b4
        · exact (hr 4 (mem_ready.2 ⟨rfl, _, rfl, by simp [Region.binds]⟩)).elim
        · rfl
      obtain rfl : b5 = true := by
        cases b5
        · exact (hr 5 (mem_ready.2 ⟨rfl, _, rfl, by simp [Region.binds]⟩)).elim
        · rfl
      obtain rfl : b6 = true := by
        cases b6
        · exact (hr 6 (mem_ready.2 ⟨rfl, _, rfl, by simp [Region.binds]⟩)).elim
        · rfl
      obtain rfl : b7 = true := by
        cases b7
        · exact (hr 7 (mem_ready.2 ⟨rfl, _, rfl, by simp [Region.binds]⟩)).elim
        · rfl
      obtain rfl : b8 = true := by
        cases b8
        · exact (hr 8 (mem_ready.2 ⟨rfl, _, rfl, by simp [Region.binds]⟩)).elim
        · rfl
      obtain rfl : b9 = true := by
        cases b9
        · exact (hr 9 (mem_ready.2 ⟨rfl, _, rfl, by simp [Region.binds]⟩)).elim
        · rfl
      obtain rfl : b10 = true := by
        cases b10
        · exact (hr 10 (mem_ready.2 ⟨rfl, _, rfl, by simp [Region.binds]⟩)).elim
        · rfl
      obtain rfl : b11 = true := by
        cases b11
        · exact (hr 11 (mem_ready.2 ⟨rfl, _, rfl, by simp [Region.binds]⟩)).elim
        · rfl
      clear hr
      obtain ⟨g, rfl, hg, _, hh⟩ := hM.h10 rfl
      have hh := hh rfl
      have hr8 := hM.h8 rfl
      obtain ⟨g6, rfl, hg6, hh6⟩ := hM.h6 rfl
      rcases id hr8.2 with ⟨_, e0⟩ | ⟨g8, cap, cur, rfl, hg8, hh8, hn8, hm8, hs8, ht8⟩
      · omega
      have hIm : IsStk w' (some ⟨g8, 0, none⟩) (n1 + 1) cap (sss ++ [[]]) := by
        refine ⟨hn8, hm8, by simp [hl], (fun e => by cases e), fun _ => ⟨g8, 0, rfl, heap_lt' hh8, fun i hi1 => ?_⟩⟩
        rw [Nat.zero_add]
        have hc : ∀ u, (vs ++ [Value.slice (some ⟨g6, 0, none⟩) 0 0])[i]? = some u → w'.cell? ⟨g8, i, none⟩ = some u := by
          intro u hu
          rw [← ht8, List.getElem?_take, if_pos (by omega), Array.getElem?_toList] at hu
          simp only [World.cell?, hh8]
          exact hu
        by_cases hin : i < n1
        · obtain ⟨Ai, ni, ci, e1, _, e2⟩ := hvs i hin
          have hi' : i < vs.length := by omega
          refine ⟨Ai, ni, ci, hc _ ?_, ?_⟩
          · rw [List.getElem?_append_left hi']
            rw [← e1]
            simp [List.getD, hi']
          · have e3 : (sss ++ [[]]).getD i [] = sss.getD i [] := by simp [List.getD, List.getElem?_append_left (show i < sss.length by omega)]
            rw [e3]
            exact e2.below hM.base
        · obtain rfl : i = n1 := by omega
          refine ⟨some ⟨g6, 0, none⟩, 0, 0, hc _ ?_, ?_⟩
          · rw [List.getElem?_append_right (by omega), hvl]
            simp
          · have e3 : (sss ++ [[]]).getD i [] = [] := by simp [List.getD, hl]
            rw [e3]
            exact ⟨Nat.le_refl _, Nat.zero_le _, rfl, (fun e => by cases e), fun e => absurd e (by omega)⟩
      have hb6 := hb5.trans (hM.base.mono hs5)
      have hs6 := hb6.size
      have hyd6 := hyd5.below hM.base
      have hvr : Vr w' g hi (.slice (some ⟨g8, 0, none⟩) (n1 + 1) cap) := hh
      have HIm := Lib.hid hIm
      have Hyd6 := Lib.hid hyd6
      have Hvr := Lib.hid hvr
      obtain ⟨z3, s0, s1⟩ := id hyd6
      obtain ⟨m0, m1, m2, m3⟩ := hvr.cells
      clear hM hIm hyd6 hvr hh hr8 hh8 hn8 hm8 hs8 ht8 hh6 hvs hvl hI5 hb5 hs5 hyd5 y3 p0 p1 hg hg8 hg6
      cases hyb : yardB hi sss with
      | false =>
        have Hyb := Lib.hid hyb
        clear hyb
        go_wp2_with (first
          | (go_at_call 15; refine (implYardValid_any _ _ _ _ _ _ (stk_nil _)).mono ?_; rintro e w9 ⟨rfl, hb9⟩; rw [yardB_nil]; have hb10 := hb6.trans (hb9.mono hs6))
          | (go_at_call 31; refine (alive_any _).mono ?_; rintro e w' ⟨rfl, rfl⟩))
        go_ret
        exact ⟨rfl, hb10⟩
      | true =>
        by_cases h5 : n1 = 5
        · have he5 : ((n1 : Int) == 5) = true := by simp [h5]
          have he5' : (n1 : Int) = 5 := by omega
          have Hyb := Lib.hid hyb
          clear hyb h5
          go_wp2_with (first
            | (go_at_call 15; refine (implYardValid_any _ _ _ _ _ _ (stk_nil _)).mono ?_; rintro e w9 ⟨rfl, hb9⟩; rw [yardB_nil]; have hb10 := hb6.trans (hb9.mono hs6))
            | (go_at_call 31; refine (alive_any _).mono ?_; rintro e w' ⟨rfl, rfl⟩))
          go_ret
          exact ⟨rfl, hb10⟩
        · have hne5 : ((n1 : Int) == 5) = false := by simp; omega
          have hne5' : ¬ (n1 : Int) = 5 := by omega
          have hmore : yardB hi (sss ++ [[]]) = true := yardB_more hyb (by rw [hl]; exact h5)
          have Hyb := Lib.hid hyb
          have Hmore := Lib.hid hmore
          clear hyb hmore
          go_wp2_with (first
            | (go_at_call 15; refine (implYardValid_any hi none 0 0 [] w9 (stk_nil _)).mono ?_; rintro e w11 ⟨rfl, hb11⟩; rw [yardB_nil]; have hb12 := hb10.trans (hb11.mono hs10))
            | (go_at_call 15; refine (implYardValid_any hi (some ⟨g8, 0, none⟩) (n1 + 1) cap (sss ++ [[]]) w' HIm.out).mono ?_; rintro e w9 ⟨rfl, hb9⟩; rw [Hmore.out]
               have hb10 := hb6.trans (hb9.mono hs6)
               have hs10 := hb10.size
               have hyd9 := Hyd6.out.below hb9
               obtain ⟨z4, r0, r1⟩ := id hyd9)
            | (go_at_call 31; refine (alive_any _).mono ?_; rintro e w' ⟨rfl, rfl⟩))
          go_ret
          exact ⟨rfl, hb12⟩
end Go.Proofs.Yteghialkkhmggaa
