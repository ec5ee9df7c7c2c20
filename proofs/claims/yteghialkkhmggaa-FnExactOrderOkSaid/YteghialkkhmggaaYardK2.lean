/- spec.Blocking. Conditions: that the slices read as lists. -/
import Derived.Test.YteghialkkhmggaaYardB2
import Derived.Test.YteghialkkhmggaaYardK
namespace Go.Proofs.Yteghialkkhmggaa
open Go.RowKit
set_option linter.unusedVariables false

set_option maxHeartbeats 1600000 in
theorem specBlocking_any (hi : Int) (A : Option Addr) (n c : Nat) (sss : List (List Int)) (A' : Option Addr) (n' c' : Nat) (xs : List Int) (w : World) (h : IsStk w A n c sss) (h' : Ints w A' n' c' xs) (hn : n ≤ 1048576) :
    Calls Try.prog 28 #[.agg #[.int .i64 hi, .slice A n c], .slice A' n' c'] w fun e w' => e = .returned (.int .i64 (blockV hi sss xs)) ∧ Below w.heap.size w w' := by
  have H := Lib.hid h
  have H' := Lib.hid h'
  have Hl := Lib.hid h.length
  have Hl' := Lib.hid h'.length
  have hlen' := h'.len
  clear h h'
  have hb0 : Below w.heap.size w (w.alloc (.cells #[.int .i64 hi, .slice A n c] 27)) := (Below.refl _ _).alloc (Nat.le_refl _) _
  have hy0 : Yd (w.alloc (.cells #[.int .i64 hi, .slice A n c] 27)) w.heap.size hi A n c := ⟨by simp, by go_simp, by go_simp⟩
  cases hv : ordB hi sss xs with
  | false =>
    have hfin : blockV hi sss xs = -1 := by simp [blockV, hv]
    have Hfin := Lib.hid hfin
    clear hfin
    go_enter Try.func28, Try.ntmps28
    go_wp2_with (fail)
    refine (specOrderOk_any _ _ _ _ _ _ _ _ _ _ (H.out.alloc _) (H'.out.alloc _) hn).mono ?_
    rintro e w1 ⟨rfl, hb1⟩
    rw [hv]
    have hb2 := hb0.trans (hb1.mono hb0.size)
    go_wp2_with (fail)
    go_ret
    exact ⟨ret_int (by rw [Hfin.out]), hb2⟩
  | true =>
    have hfin : blockV hi sss xs = blkAll xs sss 0 := by simp [blockV, hv]
    have Hfin := Lib.hid hfin
    clear hfin
    go_enter Try.func28, Try.ntmps28
    go_wp2_with (fail)
    refine (specOrderOk_any _ _ _ _ _ _ _ _ _ _ (H.out.alloc _) (H'.out.alloc _) hn).mono ?_
    rintro e w1 ⟨rfl, hb1⟩
    rw [hv]
    have hb2 := hb0.trans (hb1.mono hb0.size)
    have hy1 := hy0.below hb1
    obtain ⟨y3, p0, p1⟩ := id hy1
    go_wp2_with (fail)
    obtain ⟨hs5, hk5⟩ := yard_small (ordB_yard hv)
    rw [Hl.out] at hs5 hk5
    have Hk5 := Lib.hid hk5
    clear hk5 hb1 hy0 hb0 p0 p1 y3

    go_loopw [5, 6] (fun v i wr => ∃ (k m : Nat), k ≤ n ∧ i = .int .i64 k ∧ v = .int .i64 m ∧ m ≤ 5 * k ∧ blkAll xs sss 0 = blkAll xs (sss.drop k) m ∧ Yd wr w.heap.size hi A n c ∧ Below w.heap.size w wr) (fun _ i _ => n - (intOf i).toNat)
    case atStart => exact ⟨0, 0, by omega, rfl, rfl, by omega, rfl, hy1, hb2⟩
    case round =>
      clear hy1 hb2
      obtain ⟨k, m, hk, rfl, rfl, hm, hsum, hyd, hbr⟩ := hrel
      have hsr := hbr.size
      have Hyd := Lib.hid hyd
      obtain ⟨y3, p0, p1⟩ := id hyd
      clear hyd
      by_cases hlt : k < n
      · have hlt' : (k : Int) < n := by omega
        have hk0 : (0 : Int) ≤ k := by omega
        have hkx : k < sss.length := by rw [Hl.out]; exact hlt
        obtain ⟨b, off, Ai, ni, ci, hA, hb, hc0, hz⟩ := H.out.at_ hlt
        subst hA
        have hc := (hbr.cell (p := ⟨b, off + k, none⟩) hb).trans hc0
        have hzl := hz.length
        have hni := Hk5.out k hlt
        rw [hzl] at hni
        rw [blkAll_at hkx, Hl'.out] at hsum
        obtain ⟨ys, hys⟩ : ∃ ys, sss.getD k [] = ys := ⟨_, rfl⟩
        rw [hys] at hsum hzl hz
        have Hz := Lib.hid hz
        have Hzl := Lib.hid hzl
        have Hsum := Lib.hid hsum
        clear hc0 hz hzl hsum hys
        go_wp2_with (fail)
        have hyd := Hyd.out
        go_loopw [5, 8, 9] (fun v f q wi => ∃ (j m' f' : Nat), j ≤ ni ∧ q = .int .i64 j ∧ v = .int .i64 m' ∧ f = .int .i64 f' ∧ f' ≤ n' ∧ m' ≤ 5 * k + j ∧ blk xs ys n' m = blk xs (ys.drop j) f' m' ∧ Yd wi w.heap.size hi (some ⟨b, off, none⟩) n c ∧ Below w.heap.size w wi) (fun _ _ q _ => ni - (intOf q).toNat)
        case atStart => exact ⟨0, m, n', by omega, rfl, rfl, rfl, by omega, by omega, rfl, hyd, hbr⟩
        case round =>
          clear hyd hbr hsr hc p0 p1 y3
          obtain ⟨j, m', f', hj, rfl, rfl, rfl, hf, hm', hblk, hyd, hbi⟩ := hrel
          have hsi := hbi.size
          by_cases hjl : j < ni
          · have hjl' : (j : Int) < ni := by omega
            have hj0 : (0 : Int) ≤ j := by omega
            obtain ⟨b2, off2, hA2, hb2, hd⟩ := Hz.out.at_ hjl
            subst hA2
            have hd1 := (hbi.cell (p := ⟨b2, off2 + j, none⟩) hb2).trans hd
            have hZi := H'.out.below hbi
            rw [blk_at (by rw [Hzl.out]; exact hjl)] at hblk
            obtain ⟨u, hu⟩ : ∃ u, ys.getD j 0 = u := ⟨_, rfl⟩
            rw [hu] at hd1 hblk
            obtain ⟨hw1, hw2⟩ := whenV_in xs u
            rw [Hl'.out] at hw2
            obtain ⟨t, ht⟩ := Int.eq_ofNat_of_zero_le hw1
            rw [ht] at hblk hw2
            have HZi := Lib.hid hZi
            have Ht := Lib.hid ht
            have Hyd2 := Lib.hid hyd
            clear hd hu hw1 ht hZi hyd
            by_cases hft : f' < t
            · rw [if_pos (by omega), show min (f' : Int) (t : Int) = (f' : Int) by omega] at hblk
              have Hb := Lib.hid hblk
              clear hblk
              have hft' : (f' : Int) < t := by omega
              go_wp2_with (go_at_call 53; refine (l5Turn_any _ _ _ _ u _ HZi.out).mono ?_; rintro e v3 ⟨rfl, rfl⟩; rw [Ht.out])
              exact ⟨⟨j + 1, m' + 1, f', by omega, by go_num, by go_num, congrArg (Value.int .i64) (by omega), hf, by omega, by rw [Hb.out]; simp, Hyd2.out, hbi⟩, by simp [intOf]; omega⟩
            · rw [if_neg (by omega), show min (f' : Int) (t : Int) = (t : Int) by omega] at hblk
              have Hb := Lib.hid hblk
              clear hblk
              have hft' : (t : Int) ≤ f' := by omega
              go_wp2_with (go_at_call 53; refine (l5Turn_any _ _ _ _ u _ HZi.out).mono ?_; rintro e v3 ⟨rfl, rfl⟩; rw [Ht.out])
              exact ⟨⟨j + 1, m', t, by omega, by go_num, rfl, congrArg (Value.int .i64) (by omega), by omega, by omega, Hb.out, Hyd2.out, hbi⟩, by simp [intOf]; omega⟩
          · obtain rfl : j = ni := by omega
            have hd0 : ys.drop j = [] := List.drop_eq_nil_of_le (by rw [Hzl.out]; omega)
            rw [hd0, blk] at hblk
            have hs2 := Hsum.out
            rw [hblk] at hs2
            have Hs2 := Lib.hid hs2
            have Hyd2 := Lib.hid hyd
            clear hblk hs2 hd0 hyd
            go_wp2_with (fail)
            exact ⟨⟨k + 1, m', by omega, by go_num, rfl, by omega, Hs2.out, Hyd2.out, hbi⟩, by simp [intOf]; omega⟩
      · obtain rfl : k = n := by omega
        have : sss.drop k = [] := List.drop_eq_nil_of_le (by rw [Hl.out]; omega)
        rw [this, blkAll] at hsum
        have Hs := Lib.hid hsum
        clear hsum
        go_wp2_with (fail)
        go_ret
        exact ⟨ret_int (by rw [Hfin.out, Hs.out]), hbr⟩
end Go.Proofs.Yteghialkkhmggaa
