/- The two BoxesValid, FindBox at slices that read as lists. Conditions: that the slice reads as the list. -/
import Derived.Test.YtfdnikmmfnhmbaaBoxAt
namespace Go.Proofs.Ytfdnikmmfnhmbaa
open Go.RowKit
set_option linter.unusedVariables false

def Five (w : World) (g : Nat) (y : Bx) : Prop := BoxAt w g 0 y
theorem held5 {a c : World} {g : Nat} {x0 x1 x2 x3 x4 : Value} (hb : Below a.heap.size a c) (hg : g < a.heap.size)
    (h : a.cell? ⟨g, 0, none⟩ = some x0 ∧ a.cell? ⟨g, 1, none⟩ = some x1 ∧ a.cell? ⟨g, 2, none⟩ = some x2 ∧ a.cell? ⟨g, 3, none⟩ = some x3 ∧ a.cell? ⟨g, 4, none⟩ = some x4) :
    c.cell? ⟨g, 0, none⟩ = some x0 ∧ c.cell? ⟨g, 1, none⟩ = some x1 ∧ c.cell? ⟨g, 2, none⟩ = some x2 ∧ c.cell? ⟨g, 3, none⟩ = some x3 ∧ c.cell? ⟨g, 4, none⟩ = some x4 :=
  ⟨(hb.cell (p := ⟨g, 0, none⟩) hg).trans h.1, (hb.cell (p := ⟨g, 1, none⟩) hg).trans h.2.1, (hb.cell (p := ⟨g, 2, none⟩) hg).trans h.2.2.1, (hb.cell (p := ⟨g, 3, none⟩) hg).trans h.2.2.2.1, (hb.cell (p := ⟨g, 4, none⟩) hg).trans h.2.2.2.2⟩

set_option maxHeartbeats 1600000 in
theorem implBoxesValid_any (A : Option Addr) (n c : Nat) (bs : List Bx) (w : World) (h : IsBoxes w A n c bs) :
    Calls Try.prog 44 #[.slice A n c] w fun e w' => e = .returned (.bool (boxesB bs)) ∧ Below w.heap.size w w' := by
  have hlen := h.len
  have Hl := Lib.hid h.length
  have H := Lib.hid h
  clear h
  go_enter Try.func44, Try.ntmps44
  go_wp2_with (fail)
  go_loopw [7] (fun i wr => ∃ k : Nat, k ≤ n ∧ i = .int .i64 k ∧ okBB bs k = true ∧ Below w.heap.size w wr) (fun i _ => n - (intOf i).toNat)
  case atStart => exact ⟨0, by omega, rfl, rfl, Below.refl _ _⟩
  case round =>
    obtain ⟨k, hk, rfl, hok, hbw⟩ := hrel
    have hsw := hbw.size
    by_cases hlt : k < n
    · have hlt' : (k : Int) < n := by omega
      have hk0 : (0 : Int) ≤ k := by omega
      obtain ⟨b, off, hA, hb, hc⟩ := H.out.at_ hlt
      subst hA
      have hsu := okBB_succ bs k
      rw [hok, Bool.true_and] at hsu
      have hno := boxesB_no bs k (by rw [Hl.out]; exact hlt)
      have hcut := (H.out.cut (k := k) (by omega)).below hbw
      have hkc : (k : Int) ≤ c := by have := H.out.1; omega
      obtain ⟨hc0, hc1, hc2, hc3, hc4⟩ := hc
      have d0 := (hbw.cell (p := ⟨b, off + k * 5, none⟩) hb).trans hc0
      have d1 := (hbw.cell (p := ⟨b, off + k * 5 + 1, none⟩) hb).trans hc1
      have d2 := (hbw.cell (p := ⟨b, off + k * 5 + 2, none⟩) hb).trans hc2
      have d3 := (hbw.cell (p := ⟨b, off + k * 5 + 3, none⟩) hb).trans hc3
      have d4 := (hbw.cell (p := ⟨b, off + k * 5 + 4, none⟩) hb).trans hc4
      have hbr := Nat.lt_of_lt_of_le hb hsw
      have hbe : ¬ wr.heap.size = b := by omega
      obtain ⟨y, hy⟩ : ∃ y, bs.getD k default = y := ⟨_, rfl⟩
      rw [hy] at d0 d1 d2 d3 d4 hsu
      obtain ⟨ys, hys⟩ : ∃ ys, bs.take k = ys := ⟨_, rfl⟩
      rw [hys] at hsu hcut
      have Hno := Lib.hid hno
      have Hcut := Lib.hid hcut
      clear hy hys hno hcut hc0 hc1 hc2 hc3 hc4 hok
      cases hv : bxB y with
      | false =>
        rw [hv, Bool.false_and] at hsu
        have hfin := Hno.out hsu
        have Hfin := Lib.hid hfin
        clear hfin hsu
        have hv' : boxB y.id y.wt y.cl y.po = false := hv
        go_wp2_with (fail)
        first
        | (go_region_with (first
            | (go_at_call 59; refine (implBoxValid_any _ _ _ _ _ _).mono ?_; rintro e v1 ⟨rfl, hb1⟩; rw [hv']
               have hbb : Below w.heap.size w v1 := ((hbw.alloc hsw _).drew).trans (hb1.mono (by simp; omega)))))
        | fail
        all_goals go_wp2_with (fail)
        all_goals go_ret
        all_goals exact ⟨ret_bool (by rw [Hfin.out]), hbb⟩
      | true =>
        have hv' : boxB y.id y.wt y.cl y.po = true := hv
        rw [hv, Bool.true_and] at hsu
        by_cases hi : ixOf (idsB ys) y.id < 0
        · rw [decide_eq_true hi] at hsu
          have Hsu := Lib.hid hsu
          clear hsu
          go_wp2_with (fail)
          go_region_held3 (fun w' => w'.cell? ⟨wr.heap.size, 0, none⟩ = some (.int .i64 y.id) ∧ w'.cell? ⟨wr.heap.size, 1, none⟩ = some (.int .i64 y.wt) ∧ w'.cell? ⟨wr.heap.size, 2, none⟩ = some (.int .i64 y.cl) ∧ w'.cell? ⟨wr.heap.size, 3, none⟩ = some (.int .i64 y.po) ∧ w'.cell? ⟨wr.heap.size, 4, none⟩ = some (.bool y.co)) (first | (go_keep; done) | exact held5 hb1 (by simp) (by first | assumption | (simp [*]; done)) | exact held5 hb2 hz (by first | assumption | (simp [*]; done)))
            (first
              | (go_at_call 45; refine (boxAt_any _ _ _ _ _ _ hcut1).mono ?_; rintro e v2 ⟨rfl, hb2⟩; have hbb2 := hbb.trans (hb2.mono hzz))
              | (go_at_call 59; refine (implBoxValid_any _ _ _ _ _ _).mono ?_; rintro e v1 ⟨rfl, hb1⟩; rw [hv']
                 have hbb : Below w.heap.size w v1 := ((hbw.alloc hsw _).drew).trans (hb1.mono (by simp; omega))
                 have hcut1 : IsBoxes v1 (some ⟨b, off, none⟩) k c ys := IsBoxes.below (w := (wr.alloc _).drew) (Hcut.out.alloc _) hb1
                 have hz : wr.heap.size < v1.heap.size := Nat.lt_of_lt_of_le (by simp) hb1.size
                 have hzz := hbb.size))
          all_goals go_wp2_with (fail)
          all_goals exact ⟨⟨k + 1, by omega, by go_num, Hsu.out, hbb2⟩, by simp [intOf]; omega⟩
        · rw [decide_eq_false hi] at hsu
          have hfin := Hno.out hsu
          have Hfin := Lib.hid hfin
          have hi' : 0 ≤ ixOf (idsB ys) y.id := by omega
          clear hfin hsu hi
          go_wp2_with (fail)
          go_region_held3 (fun w' => w'.cell? ⟨wr.heap.size, 0, none⟩ = some (.int .i64 y.id) ∧ w'.cell? ⟨wr.heap.size, 1, none⟩ = some (.int .i64 y.wt) ∧ w'.cell? ⟨wr.heap.size, 2, none⟩ = some (.int .i64 y.cl) ∧ w'.cell? ⟨wr.heap.size, 3, none⟩ = some (.int .i64 y.po) ∧ w'.cell? ⟨wr.heap.size, 4, none⟩ = some (.bool y.co)) (first | (go_keep; done) | exact held5 hb1 (by simp) (by first | assumption | (simp [*]; done)) | exact held5 hb2 hz (by first | assumption | (simp [*]; done)))
            (first
              | (go_at_call 45; refine (boxAt_any _ _ _ _ _ _ hcut1).mono ?_; rintro e v2 ⟨rfl, hb2⟩; have hbb2 := hbb.trans (hb2.mono hzz))
              | (go_at_call 59; refine (implBoxValid_any _ _ _ _ _ _).mono ?_; rintro e v1 ⟨rfl, hb1⟩; rw [hv']
                 have hbb : Below w.heap.size w v1 := ((hbw.alloc hsw _).drew).trans (hb1.mono (by simp; omega))
                 have hcut1 : IsBoxes v1 (some ⟨b, off, none⟩) k c ys := IsBoxes.below (w := (wr.alloc _).drew) (Hcut.out.alloc _) hb1
                 have hz : wr.heap.size < v1.heap.size := Nat.lt_of_lt_of_le (by simp) hb1.size
                 have hzz := hbb.size))
          all_goals go_wp2_with (fail)
          all_goals go_ret
          all_goals exact ⟨ret_bool (by rw [Hfin.out]), hbb2⟩
    · obtain rfl : k = n := by omega
      have hfin : boxesB bs = decide (k ≤ 10) := by simp [boxesB, Hl.out, hok]
      have Hfin := Lib.hid hfin
      clear hfin hok
      go_wp2_with (fail)
      all_goals go_ret
      all_goals exact ⟨ret_bool (by rw [Hfin.out]; simp; omega), hbw⟩
end Go.Proofs.Ytfdnikmmfnhmbaa
