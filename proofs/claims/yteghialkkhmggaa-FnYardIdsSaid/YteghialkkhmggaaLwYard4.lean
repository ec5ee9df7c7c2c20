/- laws.ascend; the walk of the law FnYardIds. Conditions: that the code reads as bytes. -/
import Derived.Test.YteghialkkhmggaaLwYard1
import Derived.Test.YteghialkkhmggaaYardIds
namespace Go.Proofs.Yteghialkkhmggaa
open Go.RowKit
set_option linter.unusedVariables false

set_option maxHeartbeats 800000 in
theorem ascend_any (A : Option Addr) (n c : Nat) (xs : List Int) (w : World) (h : Ints w A n c xs) (hs : ∀ i, i + 1 < n → xs.getD i 0 < xs.getD (i + 1) 0) :
    Calls Try.prog 36 #[.slice A n c] w fun e w' => e = .returned (.bool true) ∧ Below w.heap.size w w' := by
  have hlen := h.len
  have H := Lib.hid h
  have Hs := Lib.hid hs
  clear h hs
  go_enter Try.func36, Try.ntmps36
  go_wp2_with (fail)
  go_loopw [3] (fun i wr => ∃ k : Nat, (k = 0 ∨ k < n) ∧ i = .int .i64 ((k : Int) + 1) ∧ Below w.heap.size w wr) (fun i _ => n + 1 - (Go.RowKit.intOf i).toNat)
  case atStart => exact ⟨0, .inl rfl, rfl, Below.refl _ _⟩
  case round =>
    obtain ⟨k, hk, rfl, hbr⟩ := hrel
    by_cases hlt : k + 1 < n
    · have hlt' : (k : Int) + 1 < n := by omega
      have hk0 : (0 : Int) ≤ k := by omega
      have hk1 : (k : Int) < n := by omega
      obtain ⟨b, off, hA, hb, hc0⟩ := H.out.at_ (show k < n by omega)
      subst hA
      obtain ⟨b', off', hA, _, hc1⟩ := H.out.at_ hlt
      injection hA with hA
      injection hA with e1 e2 e3
      subst e1 e2
      have hd0 := (hbr.cell (p := ⟨b, off + k, none⟩) hb).trans hc0
      have hd1 := (hbr.cell (p := ⟨b, off + (k + 1), none⟩) hb).trans hc1
      have hls := Hs.out k hlt
      obtain ⟨u, hu⟩ : ∃ u, xs.getD k 0 = u := ⟨_, rfl⟩
      obtain ⟨v, hv⟩ : ∃ v, xs.getD (k + 1) 0 = v := ⟨_, rfl⟩
      rw [hu] at hd0 hls
      rw [hv] at hd1 hls
      have hw1 : IntKind.i64.wrap ((k : Int) + 1 - 1) = k := by rw [show (k : Int) + 1 - 1 = k by omega]; exact IntWalk.i64_in _ (by omega)
      have hn1 : ((k : Int) + 1).toNat = k + 1 := by omega
      have hk2 : (0 : Int) ≤ (k : Int) + 1 := by omega
      clear hc0 hc1 hu hv
      go_wp2_with (fail)
      go_quiet (fail)
      go_wp2_with (fail)
      exact ⟨⟨k + 1, .inr (by omega), by go_num, below_drewN hbr _⟩, by simp [Go.RowKit.intOf]; omega⟩
    · have hge : (n : Int) ≤ (k : Int) + 1 := by omega
      go_wp2_with (fail)
      go_ret
      exact ⟨rfl, hbr⟩

set_option maxHeartbeats 3200000 in
theorem fnYardIds_walk (A : Option Addr) (n c : Nat) (zs : List Int) (w : World) (h : IsRow .u8 w A n c zs) :
    Calls Try.prog 10 #[.slice A n c] w fun e w' => e = .returned (.bool true) ∧ Below w.heap.size w w' := by
  by_cases hn : 1048576 < n
  · have hn' : (1048576 : Int) < n := by omega
    clear h
    go_enter Try.func10, Try.ntmps10
    go_wp2_with (fail)
    go_ret
    exact ⟨rfl, (by repeat' (first | with_reducible exact Below.refl _ _ | with_reducible assumption | with_reducible refine bel_step (by with_reducible assumption) ?_ ?_ | with_reducible refine Below.drew ?_ | with_reducible refine below_drewN ?_ _ | with_reducible refine Below.alloc ?_ ?_ _ | with_reducible refine Below.setCell ?_ ?_ _ | (simp; done) | (simp; omega) | omega | with_reducible refine below_le (by with_reducible assumption) ?_))⟩
  · have hn' : (n : Int) ≤ 1048576 := by omega
    have H := Lib.hid h
    clear h hn
    go_enter Try.func10, Try.ntmps10
    go_wp2_with (fail)
    refine (drawYardIds_any _ _ _ _ _ H.out).mono ?_
    rintro e w1 ⟨hi, A1, n1, c1, sss, rfl, hS, hn1, hb1⟩
    obtain ⟨A2, c2, e2, hI, _⟩ := hS.stk
    simp only [Value.slice.injEq, true_and] at e2
    obtain ⟨rfl, rfl⟩ := e2
    clear hS
    have hs1 := hb1.size
    have hl := hI.length
    have hyd : Yd (w1.alloc (.cells #[.int .i64 hi, .slice A1 n1 c1] 27)) w1.heap.size hi A1 n1 c1 := ⟨by simp, by go_simp, by go_simp⟩
    have hI := hI.alloc (.cells #[.int .i64 hi, .slice A1 n1 c1] 27)
    have hb1 := hb1.alloc hs1 (.cells #[.int .i64 hi, .slice A1 n1 c1] 27)
    have hs1 := hb1.size
    obtain ⟨ids, hids⟩ : ∃ ids, idsV hi sss = ids := ⟨_, rfl⟩
    go_wp2_with (fail)
    refine (implYardIds_any _ _ _ _ _ _ hI).mono ?_
    rintro e w2 ⟨v2, rfl, hr2, hb2⟩
    rw [hids] at hr2
    obtain ⟨A2, d2, rfl, ho2⟩ := hr2.own
    have hJ2 := ho2.ints
    have hb3 := hb1.trans (hb2.mono hs1)
    have hs3 := hb3.size
    have hI3 := hI.below hb2
    have hyd3 := hyd.below hb2
    obtain ⟨y3, p0, p1⟩ := id hyd3
    clear hI hb1 hb2 hyd hr2 ho2
    go_wp2_with (fail)
    refine (specYardIds_any _ _ _ _ _ _ hI3 (by omega)).mono ?_
    rintro e w4 ⟨v4, rfl, hr4, hb4⟩
    rw [hids] at hr4
    obtain ⟨A4, d4, rfl, ho4⟩ := hr4.own
    have hJ4 := ho4.ints
    have hJ2 := hJ2.below hb4
    have hb5 := hb3.trans (hb4.mono hs3)
    have hs5 := hb5.size
    have hI5 := hI3.below hb4
    have hyd5 := hyd3.below hb4
    clear hI3 hb3 hb4 hs3 hyd3 y3 p0 p1 hr4 ho4
    have he := eqL_self ids
    go_wp2_with (fail)
    refine (sameInts_any _ _ _ _ _ _ _ _ _ hJ2 hJ4).mono ?_
    rintro e w5 ⟨rfl, hb5'⟩
    have hb6 := hb5.trans (hb5'.mono hs5)
    have hs6 := hb6.size
    have hI6 := hI5.below hb5'
    have hyd6 := hyd5.below hb5'
    have hJ6 := hJ2.below hb5'
    obtain ⟨y3, p0, p1⟩ := id hyd6
    clear hI5 hb5 hb5' hs5 hyd5 hJ2 hJ4
    go_wp2_with (fail)
    refine (specYardValid_any _ _ _ _ _ _ hI6 (by omega)).mono ?_
    rintro e w6 ⟨rfl, hb6'⟩
    have hb7 := hb6.trans (hb6'.mono hs6)
    have hs7 := hb7.size
    have hI7 := hI6.below hb6'
    have hyd7 := hyd6.below hb6'
    have hJ7 := hJ6.below hb6'
    clear hI6 hb6 hb6' hs6 hyd6 hJ6 y3 p0 p1 he
    cases hv : yardB hi sss with
    | false =>
      have h0 : ids.length = 0 := by rw [← hids, idsV, if_neg (by rw [hv]; decide)]; rfl
      rw [h0]
      clear h0 hids
      go_wp2_with (go_at_call 31; refine (alive_any _).mono ?_; rintro e w' ⟨rfl, rfl⟩)
      go_ret
      exact ⟨rfl, hb7⟩
    | true =>
      have h25 := yard_25 hv
      have hids' : ids = sortL sss.flatten := by rw [← hids, idsV, if_pos hv]
      have hil : ids.length = sss.flatten.length := by rw [hids', sortL_length]
      have hasc : ∀ i, i + 1 < ids.length → ids.getD i 0 < ids.getD (i + 1) 0 := by
        intro i hi
        rw [hids']
        exact sortL_less (yard_nodup hv) i (by omega)
      have hfnd : ∀ i, i < ids.length → 0 ≤ findY hi sss (ids.getD i 0) := by
        intro i hi
        rw [findY, if_pos hv, hids']
        exact ixS_mem (sortL_mem (by omega))
      obtain ⟨m, hm⟩ : ∃ m, ids.length = m := ⟨_, rfl⟩
      rw [hm] at hil hasc hfnd hJ7 ⊢
      have hm25 : m ≤ 25 := by omega
      have Hasc := Lib.hid hasc
      have Hfnd := Lib.hid hfnd
      have Hil := Lib.hid hil
      have Hl := Lib.hid hl
      have HI7 := Lib.hid hI7
      have HJ7 := Lib.hid hJ7
      have Hyd7 := Lib.hid hyd7
      have hjl := hJ7.len
      obtain ⟨y3, p0, p1⟩ := id hyd7
      clear hasc hfnd hids hids' hI7 hJ7 hyd7 hil hm h25 hv hl
      obtain ⟨Y, hY⟩ : ∃ Y, w1.heap.size = Y := ⟨_, rfl⟩
      rw [hY] at p0 p1 y3 ⊢
      clear hY
      go_wp2_with (fail)
      go_loop [5, 6] (fun z i => ∃ (k q : Nat), k ≤ n1 ∧ q ≤ 25 ∧ i = .int .i64 k ∧ z = .int .i64 (q : Int) ∧ q = (upTo sss k 0).length) (fun _ i => n1 - (Go.RowKit.intOf i).toNat)
      case atStart => exact ⟨0, 0, by omega, by omega, rfl, rfl, by rw [upTo_zero]; rfl⟩
      case round =>
        obtain ⟨k, q, hk, hq, rfl, rfl, hqu⟩ := hrel
        have Hqu := Lib.hid hqu
        clear hqu
        by_cases hlt : k < n1
        · have hlt' : (k : Int) < n1 := by omega
          have hk0 : (0 : Int) ≤ k := by omega
          obtain ⟨b, off, Ai, ni, ci, hA, hb, hc, hz⟩ := HI7.out.at_ hlt
          subst hA
          obtain ⟨u1, u2⟩ := upTo_len (sss := sss) (k := k) (by rw [Hl.out]; exact hlt)
          have hzn := hz.length
          have hf := Hil.out
          have hqu := Hqu.out
          have hni : q + ni ≤ 25 := by omega
          have hnx : q + ni = (upTo sss (k + 1) 0).length := by omega
          have Hnx := Lib.hid hnx
          clear u1 u2 hzn hf hqu hz hnx
          have hw1 : IntKind.i64.wrap ((q : Int) + ni) = (q : Int) + ni := IntWalk.i64_in _ (by omega)
          go_wp2_with (fail)
          exact ⟨⟨k + 1, q + ni, by omega, by omega, by go_num, by simp, Hnx.out⟩, by simp [Go.RowKit.intOf]; omega⟩
        · obtain rfl : k = n1 := by omega
          have hqm : q = m := by
            have h1 := Hqu.out
            rw [← Hl.out, upTo_all] at h1
            rw [h1]
            exact Hil.out.symm
          clear Hqu
          subst hqm
          go_wp2_with (fail)
          go_loopw [7] (fun i wr => ∃ j : Nat, j ≤ q ∧ i = .int .i64 j ∧ Below w6.heap.size w6 wr) (fun i _ => q - (Go.RowKit.intOf i).toNat)
          case atStart => exact ⟨0, by omega, rfl, Below.refl _ _⟩
          case round =>
            obtain ⟨j, hj, rfl, hbr⟩ := hrel
            have hsr := hbr.size
            have HIr := Lib.hid (HI7.out.below hbr)
            have HJr := Lib.hid (HJ7.out.below hbr)
            by_cases hlt : j < q
            · have hlt' : (j : Int) < q := by omega
              have hj0 : (0 : Int) ≤ j := by omega
              obtain ⟨b, off, hA, hb, hd⟩ := HJr.out.at_ hlt
              subst hA
              have r0 := (hbr.cell (p := ⟨Y, 0, none⟩) y3).trans p0
              have r1 := (hbr.cell (p := ⟨Y, 1, none⟩) y3).trans p1
              have yr : Y < wr.heap.size := Nat.lt_of_lt_of_le y3 hsr
              have hx := Hfnd.out j hlt
              obtain ⟨x, hx'⟩ : ∃ x, ids.getD j 0 = x := ⟨_, rfl⟩
              rw [hx'] at hd hx
              obtain ⟨f, hf⟩ : ∃ f, findY hi sss x = f := ⟨_, rfl⟩
              rw [hf] at hx
              have hfn : ∀ W, IsStk W A1 k c1 sss → Calls Try.prog 18 #[.agg #[.int .i64 hi, .slice A1 k c1], .int .i64 x] W fun e w' => e = .returned (.int .i64 f) ∧ Below W.heap.size W w' := fun W hW => by
                rw [← hf]
                exact implYardFind_any hi A1 k c1 sss x W hW
              have Hfn := Lib.hid hfn
              clear hfn hf hx'
              go_wp2_with (fail)
              go_region_held3 (fun w' => w'.cell? ⟨Y, 0, none⟩ = some (.int .i64 hi) ∧ w'.cell? ⟨Y, 1, none⟩ = some (.slice A1 k c1) ∧ w'.cell? ⟨b, off + j, none⟩ = some (.int .i64 x)) (first | (go_keep; done) | exact ⟨e0, e1, e2⟩)
                (first
                  | (go_at_call 18; refine (Hfn.out _ (show IsStk wr.drew A1 k c1 sss from HIr.out)).mono ?_; rintro e v1 ⟨rfl, hv1⟩
                     have hb8 := (hbr.drew).trans (hv1.mono hsr)
                     have e0 := (hv1.cell (p := ⟨Y, 0, none⟩) yr).trans r0
                     have e1 := (hv1.cell (p := ⟨Y, 1, none⟩) yr).trans r1
                     have e2 := (hv1.cell (p := ⟨b, off + j, none⟩) hb).trans hd))
              all_goals go_wp2_with (fail)
              all_goals exact ⟨⟨j + 1, by omega, by go_num, hb8⟩, by simp [Go.RowKit.intOf]; omega⟩
            · obtain rfl : j = q := by omega
              have hb8 := hb7.trans (hbr.mono hs7)
              have hs8 := hb8.size
              go_wp2_with (go_at_call 36; refine (ascend_any _ _ _ _ _ HJr.out Hasc.out).mono ?_; rintro e w9 ⟨rfl, hb9⟩)
              go_ret
              exact ⟨rfl, hb8.trans (hb9.mono hs8)⟩
end Go.Proofs.Yteghialkkhmggaa
