/- The two Blocking. Conditions: that the slices read as lists. -/
import Derived.Test.YteghialkkhmggaaYardB
namespace Go.Proofs.Yteghialkkhmggaa
open Go.RowKit
set_option linter.unusedVariables false

/-- the place of a box in an order, or one behind all -/
def whenV (xs : List Int) (x : Int) : Int := if 0 ≤ ixOf xs x then ixOf xs x else xs.length
theorem whenV_in (xs : List Int) (x : Int) : 0 ≤ whenV xs x ∧ whenV xs x ≤ xs.length := by
  have := ixOf_lt xs x
  unfold whenV
  split <;> omega
/-- one stack: the least turn so far, the count so far -/
def blk (xs : List Int) : List Int → Int → Int → Int
  | [], _, m => m
  | x :: l, f, m => blk xs l (min f (whenV xs x)) (if f < whenV xs x then m + 1 else m)
def blkAll (xs : List Int) : List (List Int) → Int → Int
  | [], m => m
  | s :: l, m => blkAll xs l (blk xs s xs.length m)
theorem blk_at {xs ys : List Int} {j : Nat} {f m : Int} (hj : j < ys.length) : blk xs (ys.drop j) f m = blk xs (ys.drop (j + 1)) (min f (whenV xs (ys.getD j 0))) (if f < whenV xs (ys.getD j 0) then m + 1 else m) := by
  rw [List.drop_eq_getElem_cons hj, blk]
  simp [List.getD, hj]
theorem blkAll_at {xs : List Int} {sss : List (List Int)} {k : Nat} {m : Int} (hk : k < sss.length) : blkAll xs (sss.drop k) m = blkAll xs (sss.drop (k + 1)) (blk xs (sss.getD k []) xs.length m) := by
  rw [List.drop_eq_getElem_cons hk, blkAll]
  simp [List.getD, hk]
def blockV (hi : Int) (sss : List (List Int)) (xs : List Int) : Int := if ordB hi sss xs then blkAll xs sss 0 else -1
theorem yard_small {hi : Int} {sss : List (List Int)} (h : yardB hi sss = true) : sss.length ≤ 5 ∧ ∀ k, k < sss.length → (sss.getD k []).length ≤ 5 := by
  simp only [yardB, Bool.and_eq_true, List.all_eq_true] at h
  have h1 := inR_iff.1 h.1.1
  refine ⟨by omega, fun k hk => ?_⟩
  exact (stackB_high (h.1.2 (sss.getD k []) (by rw [List.getD, List.getElem?_eq_getElem hk]; exact List.getElem_mem _))).2
theorem ordB_yard {hi : Int} {sss : List (List Int)} {xs : List Int} (h : ordB hi sss xs = true) : yardB hi sss = true := by
  simp only [ordB, Bool.and_eq_true] at h
  exact h.1

set_option maxHeartbeats 800000 in
theorem l5Turn_any (A : Option Addr) (n c : Nat) (xs : List Int) (x : Int) (w : World) (h : Ints w A n c xs) :
    Calls Try.prog 53 #[.slice A n c, .int .i64 x] w fun e w' => e = .returned (.int .i64 (whenV xs x)) ∧ w = w' := by
  have hlen := h.len
  have Hl := Lib.hid h.length
  have H := Lib.hid h
  clear h
  go_enter Try.func53, Try.ntmps53
  go_wp2_with (fail)
  go_loop [5] (fun c => ∃ k : Nat, k ≤ n ∧ c = .int .i64 k ∧ NoX xs x k) (fun c => n - (intOf c).toNat)
  case atStart => exact ⟨0, by omega, rfl, NoX.zero _ _⟩
  case round =>
    obtain ⟨k, hk, rfl, hno⟩ := hrel
    have Hno := Lib.hid hno
    clear hno
    by_cases hlt : k < n
    · have hlt' : (k : Int) < n := by omega
      obtain ⟨b, off, hA, hb, hc⟩ := H.out.at_ hlt
      subst hA
      obtain ⟨v, hv⟩ : ∃ v, xs.getD k 0 = v := ⟨_, rfl⟩
      rw [hv] at hc
      have Hv := Lib.hid hv
      clear hv
      cases hx : (v == x) with
      | true =>
        have hix := ixOf_found xs x k (by rw [Hl.out]; exact hlt) (by rw [Hv.out]; exact beq_iff_eq.1 hx) Hno.out
        have hfin : whenV xs x = k := by rw [whenV, hix, if_pos (by omega)]
        have Hfin := Lib.hid hfin
        clear hfin hix
        go_wp2_with (fail)
        go_ret
        exact ⟨ret_int (by rw [Hfin.out]), rfl⟩
      | false =>
        have hn1 := Hno.out.succ (by rw [Hv.out]; exact beq_eq_false_iff_ne.1 hx)
        have Hn1 := Lib.hid hn1
        clear hn1
        go_wp2_with (fail)
        exact ⟨⟨k + 1, by omega, by go_num, Hn1.out⟩, by simp [intOf]; omega⟩
    · obtain rfl : k = n := by omega
      have hix := ixOf_none xs x (by rw [Hl.out]; exact Hno.out)
      have hfin : whenV xs x = k := by rw [whenV, hix, if_neg (by omega), Hl.out]
      have Hfin := Lib.hid hfin
      clear hfin hix
      go_wp2_with (fail)
      go_ret
      exact ⟨ret_int (by rw [Hfin.out]), rfl⟩

set_option maxHeartbeats 800000 in
theorem when_any (A : Option Addr) (n c : Nat) (xs : List Int) (x : Int) (g : Nat) (w : World) (h : Ints w A n c xs) (hg : g < w.heap.size) (hx : w.cell? ⟨g, 0, none⟩ = some (.slice A n c)) :
    Calls Try.prog 54 #[.int .i64 x, .pointer (some ⟨g, 0, none⟩)] w fun e w' => e = .returned (.int .i64 (whenV xs x)) ∧ Below w.heap.size w w' := by
  have hlen := h.len
  have Hl := Lib.hid h.length
  have H := Lib.hid h
  clear h
  by_cases hq : ixOf xs x < 0
  · have hfin : whenV xs x = n := by rw [whenV, if_neg (by omega), Hl.out]
    have Hfin := Lib.hid hfin
    clear hfin
    go_enter Try.func54, Try.ntmps54
    go_wp2_with (go_at_call 55; refine (index_any _ _ _ _ _ _ H.out).mono ?_; rintro e w' ⟨rfl, rfl⟩)
    go_ret
    exact ⟨ret_int (by rw [Hfin.out]), (by repeat' (first | with_reducible exact Below.refl _ _ | with_reducible assumption | with_reducible refine bel_step (by with_reducible assumption) ?_ ?_ | with_reducible refine Below.drew ?_ | with_reducible refine below_drewN ?_ _ | with_reducible refine Below.alloc ?_ ?_ _ | with_reducible refine Below.setCell ?_ ?_ _ | (simp; done) | (simp; omega) | omega | with_reducible refine below_le (by with_reducible assumption) ?_))⟩
  · obtain ⟨m, hm⟩ := Int.eq_ofNat_of_zero_le (show 0 ≤ ixOf xs x by omega)
    have hfin : whenV xs x = m := by rw [whenV, if_pos (by omega), hm]
    have Hfin := Lib.hid hfin
    clear hfin
    go_enter Try.func54, Try.ntmps54
    go_wp2_with (go_at_call 55; refine (index_any _ _ _ _ _ _ H.out).mono ?_; rintro e w' ⟨rfl, rfl⟩; rw [hm])
    go_ret
    exact ⟨ret_int (by rw [Hfin.out]), (by repeat' (first | with_reducible exact Below.refl _ _ | with_reducible assumption | with_reducible refine bel_step (by with_reducible assumption) ?_ ?_ | with_reducible refine Below.drew ?_ | with_reducible refine below_drewN ?_ _ | with_reducible refine Below.alloc ?_ ?_ _ | with_reducible refine Below.setCell ?_ ?_ _ | (simp; done) | (simp; omega) | omega | with_reducible refine below_le (by with_reducible assumption) ?_))⟩

set_option maxHeartbeats 1600000 in
theorem implBlocking_any (hi : Int) (A : Option Addr) (n c : Nat) (sss : List (List Int)) (A' : Option Addr) (n' c' : Nat) (xs : List Int) (w : World) (h : IsStk w A n c sss) (h' : Ints w A' n' c' xs) :
    Calls Try.prog 29 #[.agg #[.int .i64 hi, .slice A n c], .slice A' n' c'] w fun e w' => e = .returned (.int .i64 (blockV hi sss xs)) ∧ Below w.heap.size w w' := by
  have H := Lib.hid h
  have H' := Lib.hid h'
  have Hl := Lib.hid h.length
  have Hl' := Lib.hid h'.length
  have hlen' := h'.len
  clear h h'
  have hb0 : Below w.heap.size w ((w.alloc (.cells #[.int .i64 hi, .slice A n c] 27)).alloc (.cells #[.slice A' n' c'] 33)) := ((Below.refl _ _).alloc (Nat.le_refl _) _).alloc (by simp) _
  have hy0 : Yd ((w.alloc (.cells #[.int .i64 hi, .slice A n c] 27)).alloc (.cells #[.slice A' n' c'] 33)) w.heap.size hi A n c := Yd.below (w := w.alloc _) ⟨by simp, by go_simp, by go_simp⟩ ((Below.refl _ _).alloc (Nat.le_refl _) _)
  have ho0 : ((w.alloc (.cells #[.int .i64 hi, .slice A n c] 27)).alloc (.cells #[.slice A' n' c'] 33)).cell? ⟨w.heap.size + 1, 0, none⟩ = some (.slice A' n' c') := by go_simp
  have hl0 : w.heap.size + 1 < ((w.alloc (.cells #[.int .i64 hi, .slice A n c] 27)).alloc (.cells #[.slice A' n' c'] 33)).heap.size := by simp
  cases hv : ordB hi sss xs with
  | false =>
    have hfin : blockV hi sss xs = -1 := by simp [blockV, hv]
    have Hfin := Lib.hid hfin
    clear hfin
    go_enter Try.func29, Try.ntmps29
    go_wp2_with (fail)
    refine (implOrderOk_any _ _ _ _ _ _ _ _ _ _ ((H.out.alloc _).alloc _) ((H'.out.alloc _).alloc _)).mono ?_
    rintro e w1 ⟨rfl, hb1⟩
    rw [hv]
    have hb2 := hb0.trans (hb1.mono hb0.size)
    go_wp2_with (fail)
    go_ret
    exact ⟨ret_int (by rw [Hfin.out]), hb2⟩
  | true =>
    have hfin : blockV hi sss xs = blkAll xs sss 0 := by simp [blockV, hv]
    have Hfin := Lib.hid hfin
    clear hfin
    go_enter Try.func29, Try.ntmps29
    go_wp2_with (fail)
    refine (implOrderOk_any _ _ _ _ _ _ _ _ _ _ ((H.out.alloc _).alloc _) ((H'.out.alloc _).alloc _)).mono ?_
    rintro e w1 ⟨rfl, hb1⟩
    rw [hv]
    have hb2 := hb0.trans (hb1.mono hb0.size)
    have hy1 := hy0.below hb1
    have ho1 := (hb1.cell (p := ⟨w.heap.size + 1, 0, none⟩) hl0).trans ho0
    have hl1 := Nat.lt_of_lt_of_le hl0 hb1.size
    obtain ⟨y3, p0, p1⟩ := id hy1
    go_wp2_with (fail)
    obtain ⟨hs5, hk5⟩ := yard_small (ordB_yard hv)
    rw [Hl.out] at hs5 hk5
    have Hk5 := Lib.hid hk5
    clear hk5 hy1 hb1 hy0 ho0 hl0 hb0 p0 p1 y3
    go_loopw [6, 20] (fun v i wr => ∃ (k m : Nat), k ≤ n ∧ i = .int .i64 k ∧ v = .int .i64 m ∧ m ≤ 5 * k ∧ blkAll xs sss 0 = blkAll xs (sss.drop k) m ∧ w.heap.size + 1 < wr.heap.size ∧ wr.cell? ⟨w.heap.size + 1, 0, none⟩ = some (.slice A' n' c') ∧ Below w.heap.size w wr) (fun _ i _ => n - (intOf i).toNat)
    case atStart => exact ⟨0, 0, by omega, rfl, rfl, by omega, rfl, hl1, ho1, hb2⟩
    case round =>
      clear hl1 ho1 hb2
      obtain ⟨k, m, hk, rfl, rfl, hm, hsum, hlr, hor, hbr⟩ := hrel
      have hsr := hbr.size
      by_cases hlt : k < n
      · have hlt' : (k : Int) < n := by omega
        have hk0 : (0 : Int) ≤ k := by omega
        have hkx : k < sss.length := by rw [Hl.out]; exact hlt
        obtain ⟨b, off, Ai, ni, ci, hA, hb, hc0, hz⟩ := H.out.at_ hlt
        subst hA
        have hc := (hbr.cell (p := ⟨b, off + k, none⟩) hb).trans hc0
        have hzl := hz.length
        have hni := Hk5.out k hlt
        rw [hzl] at hni
        rw [blkAll_at hkx, Hl'.out] at hsum
        obtain ⟨ys, hys⟩ : ∃ ys, sss.getD k [] = ys := ⟨_, rfl⟩
        rw [hys] at hsum hzl hz
        have Hz := Lib.hid hz
        have Hzl := Lib.hid hzl
        have Hsum := Lib.hid hsum
        clear hc0 hz hzl hsum hys
        go_wp2_with (fail)
        go_loopw [6, 9, 28] (fun v f q wi => ∃ (j m' f' : Nat), j ≤ ni ∧ q = .int .i64 j ∧ v = .int .i64 m' ∧ f = .int .i64 f' ∧ f' ≤ n' ∧ m' ≤ 5 * k + j ∧ blk xs ys n' m = blk xs (ys.drop j) f' m' ∧ w.heap.size + 1 < wi.heap.size ∧ wi.cell? ⟨w.heap.size + 1, 0, none⟩ = some (.slice A' n' c') ∧ Below w.heap.size w wi) (fun _ _ q _ => ni - (intOf q).toNat)
        case atStart => exact ⟨0, m, n', by omega, rfl, rfl, rfl, by omega, by omega, rfl, hlr, hor, hbr⟩
        case round =>
          clear hlr hor hbr hsr hc
          obtain ⟨j, m', f', hj, rfl, rfl, rfl, hf, hm', hblk, hli, hoi, hbi⟩ := hrel
          have hsi := hbi.size
          by_cases hjl : j < ni
          · have hjl' : (j : Int) < ni := by omega
            have hj0 : (0 : Int) ≤ j := by omega
            obtain ⟨b2, off2, hA2, hb2, hd⟩ := Hz.out.at_ hjl
            subst hA2
            have hd1 := (hbi.cell (p := ⟨b2, off2 + j, none⟩) hb2).trans hd
            have hZi := H'.out.below hbi
            rw [blk_at (by rw [Hzl.out]; exact hjl)] at hblk
            obtain ⟨u, hu⟩ : ∃ u, ys.getD j 0 = u := ⟨_, rfl⟩
            rw [hu] at hd1 hblk
            obtain ⟨hw1, hw2⟩ := whenV_in xs u
            rw [Hl'.out] at hw2
            obtain ⟨t, ht⟩ := Int.eq_ofNat_of_zero_le hw1
            rw [ht] at hblk hw2
            have HZi := Lib.hid hZi
            have Ht := Lib.hid ht
            clear hd hu hw1 ht hZi
            by_cases hft : f' < t
            · rw [if_pos (by omega), show min (f' : Int) (t : Int) = (f' : Int) by omega] at hblk
              have Hb := Lib.hid hblk
              clear hblk
              have hft' : (f' : Int) < t := by omega
              go_wp2_with (first
                | (go_at_call 54; refine (when_any _ _ _ _ u _ _ hZ3 hl3 ho3).mono ?_; rintro e v4 ⟨rfl, hb4⟩; rw [Ht.out]
                   have hb5 := hb3.trans (hb4.mono hs3)
                   have hl5 := Nat.lt_of_lt_of_le hl3 hb4.size
                   have ho5 := (hb4.cell (p := ⟨w.heap.size + 1, 0, none⟩) hl3).trans ho3)
                | (go_at_call 54; refine (when_any _ _ _ _ u _ _ HZi.out hli hoi).mono ?_; rintro e v3 ⟨rfl, hb3'⟩; rw [Ht.out]
                   have hb3 := hbi.trans (hb3'.mono hsi)
                   have hs3 := hb3.size
                   have hZ3 := HZi.out.below hb3'
                   have hl3 := Nat.lt_of_lt_of_le hli hb3'.size
                   have ho3 := (hb3'.cell (p := ⟨w.heap.size + 1, 0, none⟩) hli).trans hoi))
              exact ⟨⟨j + 1, m' + 1, f', by omega, by go_num, by go_num, congrArg (Value.int .i64) (by omega), hf, by omega, by rw [Hb.out]; simp, hl5, ho5, hb5⟩, by simp [intOf]; omega⟩
            · rw [if_neg (by omega), show min (f' : Int) (t : Int) = (t : Int) by omega] at hblk
              have Hb := Lib.hid hblk
              clear hblk
              have hft' : (t : Int) ≤ f' := by omega
              go_wp2_with (first
                | (go_at_call 54; refine (when_any _ _ _ _ u _ _ hZ3 hl3 ho3).mono ?_; rintro e v4 ⟨rfl, hb4⟩; rw [Ht.out]
                   have hb5 := hb3.trans (hb4.mono hs3)
                   have hl5 := Nat.lt_of_lt_of_le hl3 hb4.size
                   have ho5 := (hb4.cell (p := ⟨w.heap.size + 1, 0, none⟩) hl3).trans ho3)
                | (go_at_call 54; refine (when_any _ _ _ _ u _ _ HZi.out hli hoi).mono ?_; rintro e v3 ⟨rfl, hb3'⟩; rw [Ht.out]
                   have hb3 := hbi.trans (hb3'.mono hsi)
                   have hs3 := hb3.size
                   have hZ3 := HZi.out.below hb3'
                   have hl3 := Nat.lt_of_lt_of_le hli hb3'.size
                   have ho3 := (hb3'.cell (p := ⟨w.heap.size + 1, 0, none⟩) hli).trans hoi))
              exact ⟨⟨j + 1, m', t, by omega, by go_num, rfl, congrArg (Value.int .i64) (by omega), by omega, by omega, Hb.out, hl5, ho5, hb5⟩, by simp [intOf]; omega⟩
          · obtain rfl : j = ni := by omega
            have hd0 : ys.drop j = [] := List.drop_eq_nil_of_le (by rw [Hzl.out]; omega)
            rw [hd0, blk] at hblk
            have hs2 := Hsum.out
            rw [hblk] at hs2
            have Hs2 := Lib.hid hs2
            clear hblk hs2 hd0
            go_wp2_with (fail)
            exact ⟨⟨k + 1, m', by omega, by go_num, rfl, by omega, Hs2.out, hli, hoi, hbi⟩, by simp [intOf]; omega⟩
      · obtain rfl : k = n := by omega
        have : sss.drop k = [] := List.drop_eq_nil_of_le (by rw [Hl.out]; omega)
        rw [this, blkAll] at hsum
        have Hs := Lib.hid hsum
        clear hsum
        go_wp2_with (fail)
        go_ret
        exact ⟨ret_int (by rw [Hfin.out, Hs.out]), hbr⟩

end Go.Proofs.Yteghialkkhmggaa
