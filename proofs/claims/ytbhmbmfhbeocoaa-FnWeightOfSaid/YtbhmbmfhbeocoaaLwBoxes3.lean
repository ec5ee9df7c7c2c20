/- The walk of the law FnWeightOf. Conditions: that the code reads as bytes. -/
import Derived.Test.YtbhmbmfhbeocoaaLwBoxes1
import Derived.Test.YtbhmbmfhbeocoaaApp2
namespace Go.Proofs.Ytbhmbmfhbeocoaa
open Go.RowKit
set_option linter.unusedVariables false

def DrawBsL (w : World) (e : Ending) (w' : World) : Prop :=
  ∃ A n c bs A' n' c' xs, e = .returned (.tuple #[.slice A n c, .slice A' n' c']) ∧ IsBoxes w' A n c bs ∧ n ≤ 12 ∧ Ints w' A' n' c' xs ∧ n' ≤ 6 ∧ Below w.heap.size w w'

theorem RowI.pick' {w w' : World} {B2 n g : Nat} {v : Value} {xs : List Int} (h : RowI w B2 v n xs) (hg : w.grownBy w' (some g)) (hB : g < B2) : RowI w' B2 v n xs := by
  obtain ⟨A, c, rfl, ho⟩ := h.own
  refine RowI.of_own ?_
  rcases ho with e | ⟨g1, e, h1, h2⟩
  · exact .inl e
  · exact .inr ⟨g1, e, h1, h2.grown hg (by omega)⟩
theorem RdOk.rowI' {w w' : World} {B g N B2 n : Nat} {v : Value} {xs : List Int} (h : RdOk w B g N) (hr : RowI w B2 v n xs) (hg : w.grownBy w' v.ownBlock) (hB : g < B2) : RdOk w' B g N := by
  have hlt := h.lt
  have hge := h.ge
  have key : ∀ k, k < w.heap.size → k < B2 → w'.heap[k]? = w.heap[k]? := by
    intro k h1 h2
    refine hg.block k h1 (fun e => ?_)
    rcases hr.block with e2 | ⟨g2, e2, h3, h4⟩
    · rw [e2] at e; cases e
    · rw [e2] at e; injection e with e; omega
  obtain ⟨A, n, c, zs, p, h0, h1, h2, h3, h4⟩ := h
  exact ⟨A, n, c, zs, p, h0, h1, (key g hlt hB).trans h2, h3, h4.keep fun b o hb => World.cell?_of_block (a := ⟨b, o, none⟩) (key b (by omega) (by omega))⟩
theorem OwnB.rowI {w w' : World} {B n c B2 m : Nat} {A : Option Addr} {bs : List Bx} {v : Value} {xs : List Int} (h : OwnB w B A n c bs) (hr : RowI w B2 v m xs) (hg : w.grownBy w' v.ownBlock) (hA : ∀ p, A = some p → p.block < B2) : OwnB w' B A n c bs :=
  h.grown hg fun p hp e => by
    have := hA p hp
    rcases hr.block with e2 | ⟨g2, e2, h3, h4⟩
    · rw [e2] at e; cases e
    · rw [e2] at e; injection e with e; omega

set_option maxHeartbeats 1600000 in
theorem drawWeightOf_any (A : Option Addr) (n c : Nat) (zs : List Int) (w : World) (h : IsRow .u8 w A n c zs) :
    Calls Try.prog 29 #[.slice A n c] w (DrawBsL w) := by
  have H := Lib.hid h
  clear h
  go_enter Try.func29, Try.ntmps29
  go_wp2_with (fail)
  refine (l20Open_any _ _ _ _ _ H.out).mono ?_
  rintro e w1 ⟨g, rfl, hr1, hb1⟩
  have hge := hr1.ge
  have hs1 := hb1.size
  have hl1 := hr1.lt
  go_wp2_with (fail)
  refine (l20Boxes_any _ _ _ _ _ _ hr1 (by omega) (by omega) (by omega) (by omega)).mono ?_
  rintro e w3 ⟨A1, n1, c1, bs, rfl, ho, hn, hr3, hg3⟩
  have hb3 := below_grown_step hg3 hb1 hge hs1
  have hs3 := hb3.size
  have hAs := fun p hp => (ho.2 p hp).2
  have hl3 := hr3.lt
  clear hg3 hb1 hr1 hs1
  go_wp2_with (fail)
  refine (pick_any _ _ _ _ _ (hr3.alloc _) (by omega)).mono ?_
  rintro e w4 ⟨x4, rfl, hx4, hy4, hr4, hg4⟩
  have ho4 : OwnB w4 w1.heap.size A1 n1 c1 bs := (ho.below ((Below.refl _ _).alloc (Nat.le_refl _) _)).pick hg4 hl1
  have hrow4 := (empty_row (w := w3) (Nat.le_refl w3.heap.size)).pick' hg4 hl3
  have hb4 : Below w.heap.size w w4 := below_grown_step hg4 (hb3.alloc hs3 _) hge (le_alloc hs3 _)
  have hx : x4 ≤ 5 := by omega
  have hz4 := hg4.size
  simp at hz4
  clear hg4 hb3 hr3 ho hy4
  go_wp2_with (fail)
  have hB : ∀ p, A1 = some p → p.block < w3.heap.size := hAs
  go_loopw [6, 7] (fun v q wr => ∃ (j M k : Nat) (xs : List Int), RowI wr w3.heap.size v j xs ∧ q = .int .i64 (k : Int) ∧ j + k ≤ 5 ∧ RdOk wr w.heap.size g M ∧ M + 2 * k ≤ 1000 ∧ OwnB wr w1.heap.size A1 n1 c1 bs ∧ w3.heap.size ≤ wr.heap.size ∧ Below w.heap.size w wr) (fun _ q _ => (intOf q).toNat)
  case atStart =>
    obtain ⟨k, rfl⟩ := Int.eq_ofNat_of_zero_le hx4
    exact ⟨0, _, k, [], hrow4, rfl, by omega, hr4, by omega, ho4, by omega, hb4⟩
  case round =>
    obtain ⟨j, M, k, xs, hrow, rfl, hjk, hrd, hM, hob, hzr, hbr⟩ := hrel
    have hsr := hbr.size
    obtain ⟨A5, c5, rfl, ho5⟩ := hrow.own
    cases k with
    | zero =>
      go_wp2_with (fail)
      go_ret2
      exact ⟨A1, n1, c1, bs, A5, j, c5, xs, rfl, hob.boxes, hn, ho5.ints, by omega, hbr⟩
    | succ k =>
      have hk0 : (0 : Int) < ((k + 1 : Nat) : Int) := by omega
      have hw2 : IntKind.i64.wrap (k : Int) = k := IntWalk.i64_in _ (by omega)
      go_wp2_with (fail)
      refine (pick_any _ _ _ _ _ hrd (by omega)).mono ?_
      rintro e w5 ⟨x5, rfl, hx5, hy5, hr5, hg5⟩
      have hrow5 := hrow.pick' hg5 hl3
      have hob5 := hob.pick hg5 hl1
      have hb5 := below_grown_step hg5 hbr hge hsr
      have hs5 := hb5.size
      have hz5 := hg5.size
      clear hrd hg5 hrow hbr hob
      have hx5' : x5 ≤ 12 := by omega
      go_wp2_with (fail)
      refine (pick_any _ _ _ _ _ hr5 (by omega)).mono ?_
      rintro e w6 ⟨x6, rfl, hx6, hy6, hr6, hg6⟩
      have hrow6 := hrow5.pick' hg6 hl3
      have hob6 := hob5.pick hg6 hl1
      have hb6 := below_grown_step hg6 hb5 hge hs5
      have hs6 := hb6.size
      have hz6 := hg6.size
      clear hr5 hg6 hrow5 hb5 hob5 hy5 hs5
      have hx6' : x6 ≤ 19 := by omega
      clear hy6
      have hz7 : w3.heap.size ≤ w6.heap.size := by omega
      go_wp2_with (first
        | (at_builtin; refine wpList_append_ints rfl _ _ rfl w3.heap.size _ j xs rfl (hrow6.alloc _) (some ⟨w6.heap.size, 0, none⟩) 1 1 [_] rfl (one_ints _ _) (by omega) (le_alloc hz7 _) ?_; intro v7 w7 hr7 hg7
           have hb7 : Below w.heap.size w w7 := below_append (hb6.alloc hs6 _) ((hrow6.alloc _).less hs3) hg7 (le_alloc hs6 _)
           have hrd7 := (hr6.alloc _).rowI' (hrow6.alloc _) hg7 hl3
           have hob7 := (hob6.below ((Below.refl _ _).alloc (Nat.le_refl _) _)).rowI (hrow6.alloc _) hg7 hB
           have hz8 : w3.heap.size ≤ w7.heap.size := Nat.le_trans (le_alloc hz7 _) hg7.size
           clear hg7))
      exact ⟨⟨j + 1, M + 2, k, _, hr7, rfl, by omega, hrd7, by omega, hob7, hz8, hb7⟩, by simp [intOf]⟩

theorem Ints.zero (w : World) (a : Addr) (c : Nat) (hc : c ≤ maxLen) : Ints w (some a) 0 c [] := ⟨Nat.zero_le _, hc, rfl, (fun e => by cases e), fun h => absurd h (by omega)⟩
theorem Ints.drop {w : World} {b off n c : Nat} {xs : List Int} (h : Ints w (some ⟨b, off, none⟩) n c xs) {k : Nat} (hk : k ≤ n) : Ints w (some ⟨b, off + k, none⟩) (n - k) (c - k) (xs.drop k) := by
  obtain ⟨h1, h2, h3, h4, h5⟩ := h
  refine ⟨by omega, by omega, by rw [List.length_drop]; omega, (fun e => by cases e), fun hn => ?_⟩
  obtain ⟨b', off', e, hlt, hc⟩ := h5 (by omega)
  injection e with e
  injection e with e1 e2 e3
  subst e1 e2
  refine ⟨b, off + k, rfl, hlt, fun j hj => ?_⟩
  have := hc (k + j) (by omega)
  rw [show off + (k + j) = off + k + j by omega] at this
  simpa [List.getD] using this
set_option maxHeartbeats 3200000 in
theorem fnWeightOf_walk (A : Option Addr) (n c : Nat) (zs : List Int) (w : World) (h : IsRow .u8 w A n c zs) :
    Calls Try.prog 10 #[.slice A n c] w fun e w' => e = .returned (.bool true) ∧ Below w.heap.size w w' := by
  by_cases hn : 1048576 < n
  · have hn' : (1048576 : Int) < n := by omega
    clear h
    go_enter Try.func10, Try.ntmps10
    go_wp2_with (fail)
    go_ret
    exact ⟨rfl, (by repeat' (first | with_reducible exact Below.refl _ _ | with_reducible assumption | with_reducible refine bel_step (by with_reducible assumption) ?_ ?_ | with_reducible refine Below.drew ?_ | with_reducible refine below_drewN ?_ _ | with_reducible refine Below.alloc ?_ ?_ _ | with_reducible refine Below.setCell ?_ ?_ _ | (simp; done) | (simp; omega) | omega | with_reducible refine below_le (by with_reducible assumption) ?_))⟩
  · have hn' : (n : Int) ≤ 1048576 := by omega
    have H := Lib.hid h
    clear h hn
    go_enter Try.func10, Try.ntmps10
    go_wp2_with (fail)
    refine (drawWeightOf_any _ _ _ _ _ H.out).mono ?_
    rintro e w1 ⟨A1, n1, c1, bs, A2, n2, c2, xs, rfl, hI, hn1, hJ, hn2, hb1⟩
    have hs1 := hb1.size
    go_wp2_with (fail)
    refine (implWeightOf_any _ _ _ _ _ _ _ _ _ hI hJ).mono ?_
    rintro e w2 ⟨rfl, hb2⟩
    have hb3 := hb1.trans (hb2.mono hs1)
    have hs3 := hb3.size
    have hI2 := hI.below hb2
    have hJ2 := hJ.below hb2
    obtain ⟨q, hq⟩ : ∃ q, weightV bs xs = q := ⟨_, rfl⟩
    rw [hq]
    go_wp2_with (fail)
    refine (specWeightOf_any _ _ _ _ _ _ _ _ _ hI2 hJ2).mono ?_
    rintro e w4 ⟨rfl, hb4⟩
    rw [hq]
    have hb5 := hb3.trans (hb4.mono hs3)
    have hs5 := hb5.size
    have hI4 := hI2.below hb4
    have hJ4 := hJ2.below hb4
    have hl := hJ4.length
    clear hI hI2 hJ hJ2 hb1 hb2 hb3 hb4 hs1 hs3
    by_cases hq0 : q < 0
    · obtain rfl : q = -1 := by rw [← hq]; exact weightV_ge (by omega) (by rw [hq]; exact hq0)
      go_wp2_with (go_at_call 26; refine (alive_any _).mono ?_; rintro e w' ⟨rfl, rfl⟩)
      go_ret
      exact ⟨rfl, hb5⟩
    · have hparts := weightV_parts (bs := bs) (ids := xs) (by omega) (by rw [hq]; omega) (n2 / 2)
      rw [hq] at hparts
      obtain ⟨e1, e2, e3, e4, e5, e6⟩ := hparts
      have hb0 : boxesB bs = true := by
        cases e : boxesB bs with
        | true => rfl
        | false => rw [weightV, e] at hq; simp at hq; omega
      by_cases hn0 : n2 = 0
      · subst hn0
        have hx : xs = [] := List.eq_nil_of_length_eq_zero hl
        subst hx
        have hp : weightV bs [] = 0 := by simp [weightV, hb0, wSum]
        obtain rfl : q = 0 := by rw [← hq, hp]
        have hcm := hJ4.2.1
        have hcn := hJ4.2.2.2.1
        have P := Lib.hid hp
        have hI' : IsBoxes w4.drew A1 n1 c1 bs := hI4
        have HI := Lib.hid hI'
        have hb6 : Below w.heap.size w w4.drew := hb5.drew
        have hs6 : w.heap.size ≤ w4.drew.heap.size := hs5
        clear hp hI' hI4 hJ4 hq e1 e2 e3 e4 e5 e6 hl hb0
        cases A2 with
        | none =>
          obtain rfl : c2 = 0 := hcn rfl
          clear hcn hcm
          go_wp2_with (fail)
          go_region_held3 (fun _ => True) (exact trivial) (first
            | (go_at_call 23; refine (implWeightOf_any _ _ _ _ _ _ _ _ _ hI7 (Ints.nil _)).mono ?_; rintro e w8 ⟨rfl, hb8⟩; rw [P.out]; have hb9 := hb7.trans (hb8.mono hs7))
            | (go_at_call 23; refine (implWeightOf_any _ _ _ _ _ _ _ _ _ HI.out (Ints.nil _)).mono ?_; rintro e w7 ⟨rfl, hb7'⟩; rw [P.out]; have hI7 := HI.out.below hb7'; have hb7 := hb6.trans (hb7'.mono hs6); have hs7 := hb7.size))
          all_goals go_wp2_with (fail)
          all_goals go_ret
          all_goals exact ⟨rfl, hb9⟩
        | some p =>
          clear hcn
          by_cases hc0 : c2 = 0
          · subst hc0
            go_wp2_with (fail)
            go_region_held3 (fun _ => True) (exact trivial) (first
              | (go_at_call 23; refine (implWeightOf_any _ _ _ _ _ _ _ _ _ hI7 (Ints.zero _ _ _ (by omega))).mono ?_; rintro e w8 ⟨rfl, hb8⟩; rw [P.out]; have hb9 := hb7.trans (hb8.mono hs7))
              | (go_at_call 23; refine (implWeightOf_any _ _ _ _ _ _ _ _ _ HI.out (Ints.zero _ _ _ (by omega))).mono ?_; rintro e w7 ⟨rfl, hb7'⟩; rw [P.out]; have hI7 := HI.out.below hb7'; have hb7 := hb6.trans (hb7'.mono hs6); have hs7 := hb7.size))
            all_goals go_wp2_with (fail)
            all_goals go_ret
            all_goals exact ⟨rfl, hb9⟩
          · go_wp2_with (fail)
            go_region_held3 (fun _ => True) (exact trivial) (first
              | (go_at_call 23; refine (implWeightOf_any _ _ _ _ _ _ _ _ _ hI7 (Ints.zero _ _ _ (by omega))).mono ?_; rintro e w8 ⟨rfl, hb8⟩; rw [P.out]; have hb9 := hb7.trans (hb8.mono hs7))
              | (go_at_call 23; refine (implWeightOf_any _ _ _ _ _ _ _ _ _ HI.out (Ints.zero _ _ _ (by omega))).mono ?_; rintro e w7 ⟨rfl, hb7'⟩; rw [P.out]; have hI7 := HI.out.below hb7'; have hb7 := hb6.trans (hb7'.mono hs6); have hs7 := hb7.size))
            all_goals go_wp2_with (fail)
            all_goals go_ret
            all_goals exact ⟨rfl, hb9⟩
      · obtain ⟨b, off, hA, hb, _⟩ := hJ4.at_ (show 0 < n2 by omega)
        subst hA
        have d1 := hJ4.cut (show n2 / 2 ≤ n2 by omega)
        have d2 := hJ4.drop (show n2 / 2 ≤ n2 by omega)
        have hc2 := hJ4.1
        have hlen := hJ4.len
        obtain ⟨h, hh⟩ : ∃ h, n2 / 2 = h := ⟨_, rfl⟩
        rw [hh] at d1 d2 e1 e3 e4 e5 e6
        have f1 : (n2 : Int) / 2 = h := by omega
        have f2 : (0 : Int) ≤ h := by omega
        have f3 : (h : Int) ≤ n2 := by omega
        have f4 : (h : Int) ≤ c2 := by omega
        have f5 : ¬ c2 = h := by omega
        have f6 : (n2 : Int) ≤ c2 := by omega
        have f7 : (n2 : Int) ≤ q := by rw [hl] at e2; exact e2
        obtain ⟨p1, hp1⟩ : ∃ p, weightV bs (xs.take h) = p := ⟨_, rfl⟩
        obtain ⟨p2, hp2⟩ : ∃ p, weightV bs (xs.drop h) = p := ⟨_, rfl⟩
        rw [hp1] at e1 e3 e4
        rw [hp2] at e1 e5 e6
        have f8 : IntKind.i64.wrap (p1 + p2) = q := by rw [e1]; exact IntWalk.i64_in _ (by omega)
        have d1' : Ints w4.drew (some ⟨b, off, none⟩) h c2 (xs.take h) := d1
        have d2' : Ints w4.drew (some ⟨b, off + h, none⟩) (n2 - h) (c2 - h) (xs.drop h) := d2
        have hI' : IsBoxes w4.drew A1 n1 c1 bs := hI4
        have D1 := Lib.hid d1'
        have D2 := Lib.hid d2'
        have HI := Lib.hid hI'
        have hb6 : Below w.heap.size w w4.drew := hb5.drew
        have hs6 : w.heap.size ≤ w4.drew.heap.size := hs5
        have P1 := Lib.hid hp1
        have P2 := Lib.hid hp2
        clear hJ4 d1 d2 d1' d2' hI' hI4 hp1 hp2 hh hl hq
        go_wp2_with (fail)
        clear e1 e2 e3 e4 e5 e6 f1 hc2 hlen hn0 hn1 hn2 hn' hb hb5 hs5 hb0
        go_region_held3 (fun _ => True) (exact trivial) (first
          | (go_at_call 23; refine (implWeightOf_any _ _ _ _ _ _ _ _ _ hI7 D7).mono ?_; rintro e w8 ⟨rfl, hb8⟩; rw [P2.out]; have hb9 := hb7.trans (hb8.mono hs7))
          | (go_at_call 23; refine (implWeightOf_any _ _ _ _ _ _ _ _ _ HI.out D1.out).mono ?_; rintro e w7 ⟨rfl, hb7'⟩; rw [P1.out]; have hI7 := HI.out.below hb7'; have D7 := D2.out.below hb7'; have hb7 := hb6.trans (hb7'.mono hs6); have hs7 := hb7.size))
        all_goals go_wp2_with (fail)
        all_goals go_ret
        all_goals exact ⟨rfl, hb9⟩
end Go.Proofs.Ytbhmbmfhbeocoaa
