/- impl.PlanTake at slices that read as lists. Conditions: that the slices read as lists. -/
import Derived.Test.YtfdnikmmfnhmbaaPlan6
namespace Go.Proofs.Ytfdnikmmfnhmbaa
open Go.RowKit
set_option linter.unusedVariables false

def TakeP (w : World) (R : List Int) (v : Int) (e : Ending) (w' : World) : Prop :=
  ∃ A n c, e = .returned (.tuple #[.slice A n c, .int .i64 v]) ∧ Own w' w.heap.size A n c R ∧ Below w.heap.size w w'
theorem own_some {w : World} {B n c : Nat} {A : Option Addr} {xs : List Int} (h : Own w B A n c xs) (hn : 0 < n) : ∃ g, A = some ⟨g, 0, none⟩ ∧ B ≤ g ∧ OwnAt w g n c xs := by
  rcases h with ⟨_, e, _⟩ | h
  · omega
  · exact h
theorem row_some {w : World} {B n : Nat} {v : Value} {xs : List Int} (h : RowI w B v n xs) (hn : 0 < n) : ∃ g c, v = .slice (some ⟨g, 0, none⟩) n c ∧ B ≤ g ∧ OwnAt w g n c xs := by
  obtain ⟨A, c, rfl, ho⟩ := h.own
  obtain ⟨g, rfl, h1, h2⟩ := own_some ho hn
  exact ⟨g, c, rfl, h1, h2⟩
theorem next_slot {b r t : Int} {m n : Nat} (hN : b * r * t = n) (ht : 1 ≤ t) (hm : m < n) (h : (m : Int) % t < t - 1) : m + 1 < n := by
  have h1 := (emod_succ (m := (m : Int)) (by omega) ht).2 h
  rcases Nat.lt_or_ge (m + 1) n with h2 | h2
  · exact h2
  · exfalso
    have e : (m : Int) + 1 = b * r * t := by rw [hN]; omega
    rw [e, Int.mul_emod_left] at h1
    omega

set_option maxHeartbeats 3200000 in
theorem implPlanTake_any (b r t : Int) (A : Option Addr) (n c : Nat) (bs : List Bx) (A' : Option Addr) (n' c' : Nat) (xs : List Int) (slot : Int) (w : World) (h : IsBoxes w A n c bs) (h' : Ints w A' n' c' xs) :
    Calls Try.prog 30 #[.agg #[.int .i64 b, .int .i64 r, .int .i64 t], .slice A n c, .slice A' n' c', .int .i64 slot] w (TakeP w (takeX b r t bs xs slot) (takeY b r t bs xs slot)) := by
  have H := Lib.hid h
  have H' := Lib.hid h'
  have Hl' := Lib.hid h'.length
  have hlen' := h'.len
  clear h h'
  have hbe : Below w.heap.size w (w.alloc (.cells #[.int .i64 b, .int .i64 r, .int .i64 t] 26)) := (Below.refl _ _).alloc (Nat.le_refl _) _
  have h3e : Hull3 (w.alloc (.cells #[.int .i64 b, .int .i64 r, .int .i64 t] 26)) w.heap.size b r t := ⟨by simp, by go_simp, by go_simp, by go_simp⟩
  have H3 := Lib.hid h3e
  have Hbe := Lib.hid hbe
  clear h3e hbe
  cases hp : planB b r t bs xs with
  | false =>
    have hf1 : takeX b r t bs xs slot = [] := by simp [takeX, hp]
    have hf2 : takeY b r t bs xs slot = -1 := by simp [takeY, canTake, hp]
    have Hf1 := Lib.hid hf1
    have Hf2 := Lib.hid hf2
    clear hf1 hf2
    go_enter Try.func30, Try.ntmps30
    go_wp2_with (go_at_call 20; refine (implPlanValid_any _ _ _ _ _ _ _ _ _ _ _ _ (H.out.alloc _) (H'.out.alloc _)).mono ?_; rintro e w1 ⟨rfl, hb0⟩; rw [hp]; have hb1 : Below w.heap.size w w1 := Hbe.out.trans (hb0.mono Hbe.out.size))
    go_ret2
    exact ⟨none, 0, 0, by rw [Hf2.out]; rfl, .inl ⟨rfl, rfl, rfl, Hf1.out⟩, hb1⟩
  | true =>
    have hn36 := planB_len hp
    obtain ⟨hhu, hN⟩ := planB_hull hp
    obtain ⟨_, _, ht1, ht3⟩ := hullB_iff.1 hhu
    obtain ⟨N, hN', hN1, _⟩ := hull_slots hhu
    rw [Hl'.out] at hn36 hN
    have hn1 : 0 < n' := by omega
    have hn20 : n' ≤ 1048576 := by omega
    have HN := Lib.hid hN
    clear hN hN' hN1 hhu
    cases hin : inR slot 0 ((n' : Int) - 1) with
    | false =>
      have hct : canTake b r t bs xs slot = false := by rw [canTake, hp, Hl'.out, hin]; rfl
      have hf1 : takeX b r t bs xs slot = xs := by simp [takeX, hp, hct]
      have hf2 : takeY b r t bs xs slot = -1 := by simp [takeY, hct]
      have Hf1 := Lib.hid hf1
      have Hf2 := Lib.hid hf2
      clear hf1 hf2 hct
      have hw0 : IntKind.i64.wrap ((n' : Int) - 1) = (n' : Int) - 1 := IntWalk.i64_in _ (by omega)
      have hwi : ∀ (W : World) (d : Nat), Calls Try.prog 52 #[.int .i64 slot, .int .i64 0, .int .i64 ((n' : Int) - 1)] (W.drewN d) fun e w' => e = .returned (.bool false) ∧ w' = W.drewN d := by
        intro W d
        have := within_any slot 0 ((n' : Int) - 1) (W.drewN d)
        rw [hin] at this
        exact quiet_l this
      have Hwi := Lib.hid hwi
      clear hwi
      go_enter Try.func30, Try.ntmps30
      go_wp2_with (first
        | (go_at_call 51; refine (clone_any _ _ _ _ _ hZ1 hn20).mono ?_; rintro e w2 ⟨v2, rfl, hr2, h2⟩
           obtain ⟨g2, c2, rfl, hg2, ho2⟩ := row_some hr2 hn1
           have hb2 := hb1.trans (h2.mono hb1.size)
           have hh2 := hh1.below h2)
        | (go_at_call 20; refine (implPlanValid_any _ _ _ _ _ _ _ _ _ _ _ _ (H.out.alloc _) (H'.out.alloc _)).mono ?_; rintro e w1 ⟨rfl, hb0⟩; rw [hp]
           have hb1 : Below w.heap.size w w1 := Hbe.out.trans (hb0.mono Hbe.out.size)
           have hs1 := hb1.size
           have hh1 := H3.out.below hb0
           have hZ1 := H'.out.below hb1))
      go_quiet ((go_at_call 52; exact Calls.quiet_of_same (Hwi.out _ _)))
      go_wp2
      go_ret2
      exact ⟨some ⟨g2, 0, none⟩, n', c2, by rw [Hf2.out]; rfl, .inr ⟨g2, rfl, by omega, by rw [Hf1.out]; exact ho2.drewN _⟩, below_drewN hb2 _⟩
    | true =>
      obtain ⟨hs0, hs1⟩ := inR_iff.1 hin
      obtain ⟨m, rfl⟩ := Int.eq_ofNat_of_zero_le hs0
      have hm : m < n' := by omega
      have hm' : (m : Int) < n' := by omega
      have hm0 : (0 : Int) ≤ m := by omega
      have hmx : m < xs.length := by rw [Hl'.out]; exact hm
      have hw0 : IntKind.i64.wrap ((n' : Int) - 1) = (n' : Int) - 1 := IntWalk.i64_in _ (by omega)
      have hwi : ∀ (W : World) (d : Nat), Calls Try.prog 52 #[.int .i64 (m : Int), .int .i64 0, .int .i64 ((n' : Int) - 1)] (W.drewN d) fun e w' => e = .returned (.bool true) ∧ w' = W.drewN d := by
        intro W d
        have := within_any m 0 ((n' : Int) - 1) (W.drewN d)
        rw [hin] at this
        exact quiet_l this
      have Hwi := Lib.hid hwi
      obtain ⟨g, off, hA, hg, hc⟩ := H'.out.at_ hm
      subst hA
      have Hc := Lib.hid hc
      clear hwi hs0 hs1 hc
      by_cases hx : xs.getD m 0 = 0
      · have hct : canTake b r t bs xs m = false := by
          have : (xs.getD ((m : Int)).toNat 0 != 0) = false := by rw [Int.toNat_natCast, hx]; rfl
          rw [canTake, hp, Hl'.out, hin, this]; rfl
        have hf1 : takeX b r t bs xs m = xs := by simp [takeX, hp, hct]
        have hf2 : takeY b r t bs xs m = -1 := by simp [takeY, hct]
        have Hf1 := Lib.hid hf1
        have Hf2 := Lib.hid hf2
        have Hx := Lib.hid hx
        clear hf1 hf2 hct hx hin
        go_enter Try.func30, Try.ntmps30
        go_wp2_with (first
        | (go_at_call 51; refine (clone_any _ _ _ _ _ hZ1 hn20).mono ?_; rintro e w2 ⟨v2, rfl, hr2, h2⟩
           obtain ⟨g2, c2, rfl, hg2, ho2⟩ := row_some hr2 hn1
           have hb2 := hb1.trans (h2.mono hb1.size)
           have hh2 := hh1.below h2)
        | (go_at_call 20; refine (implPlanValid_any _ _ _ _ _ _ _ _ _ _ _ _ (H.out.alloc _) (H'.out.alloc _)).mono ?_; rintro e w1 ⟨rfl, hb0⟩; rw [hp]
           have hb1 : Below w.heap.size w w1 := Hbe.out.trans (hb0.mono Hbe.out.size)
           have hs1 := hb1.size
           have hh1 := H3.out.below hb0
           have hZ1 := H'.out.below hb1))
        have hd := (hb2.cell (p := ⟨g, off + m, none⟩) hg).trans Hc.out
        rw [Hx.out] at hd
        go_quiet ((go_at_call 52; exact Calls.quiet_of_same (Hwi.out _ _)))
        go_wp2
        go_ret2
        exact ⟨some ⟨g2, 0, none⟩, n', c2, by rw [Hf2.out]; rfl, .inr ⟨g2, rfl, by omega, by rw [Hf1.out]; exact ho2.drewN _⟩, below_drewN hb2 _⟩
      · have hxv : (xs.getD m 0 != 0) = true := by rw [bne_iff_ne]; exact hx
        obtain ⟨u, hu⟩ : ∃ u, xs.getD m 0 = u := ⟨_, rfl⟩
        have Hu := Lib.hid hu
        have hu0 : (u == 0) = false := beq_eq_false_iff_ne.2 (by rw [← hu]; exact hx)
        obtain ⟨tv, htv⟩ : ∃ tv, (m : Int) % t = tv := ⟨_, rfl⟩
        have hwt : IntKind.i64.wrap (t - 1) = t - 1 := IntWalk.i64_in _ (by omega)
        by_cases htt : tv < t - 1
        · have hnx : m + 1 < n' := next_slot HN.out ht1 hm (by rw [htv]; exact htt)
          have hnx' : (m : Int) + 1 < n' := by omega
          have hm10 : (0 : Int) ≤ (m : Int) + 1 := by omega
          have hw1 : IntKind.i64.wrap ((m : Int) + 1) = (m : Int) + 1 := IntWalk.i64_in _ (by omega)
          obtain ⟨g', off', hA', _, hc'⟩ := H'.out.at_ hnx
          injection hA' with hA'
          injection hA' with e1 e2 e3
          subst e1 e2
          obtain ⟨z, hz⟩ : ∃ z, xs.getD (m + 1) 0 = z := ⟨_, rfl⟩
          have hov : overB t xs m = (z != 0) := by rw [overB, htv, decide_eq_true htt, hz]; rfl
          have hct : canTake b r t bs xs m = !(z != 0) := by
            rw [canTake, hp, Hl'.out, hin, Int.toNat_natCast, hxv, hov]; rfl
          rw [hz] at hc'
          have Hc' := Lib.hid hc'
          cases hzz : (z != 0) with
          | true =>
            rw [hzz] at hct
            have hf1 : takeX b r t bs xs m = xs := by rw [takeX, if_pos hp, hct]; rfl
            have hf2 : takeY b r t bs xs m = -1 := by rw [takeY, hct]; rfl
            have Hf1 := Lib.hid hf1
            have Hf2 := Lib.hid hf2
            clear hf1 hf2 hct hov hxv hx hu hc' e3 hz
            go_enter Try.func30, Try.ntmps30
            go_wp2_with (first
            | (go_at_call 51; refine (clone_any _ _ _ _ _ hZ1 hn20).mono ?_; rintro e w2 ⟨v2, rfl, hr2, h2⟩
               obtain ⟨g2, c2, rfl, hg2, ho2⟩ := row_some hr2 hn1
               have hb2 := hb1.trans (h2.mono hb1.size)
               have hh2 := hh1.below h2)
            | (go_at_call 20; refine (implPlanValid_any _ _ _ _ _ _ _ _ _ _ _ _ (H.out.alloc _) (H'.out.alloc _)).mono ?_; rintro e w1 ⟨rfl, hb0⟩; rw [hp]
               have hb1 : Below w.heap.size w w1 := Hbe.out.trans (hb0.mono Hbe.out.size)
               have hs1 := hb1.size
               have hh1 := H3.out.below hb0
               have hZ1 := H'.out.below hb1))
            have hd0 := (hb2.cell (p := ⟨g, off + m, none⟩) hg).trans Hc.out
            rw [Hu.out] at hd0
            have hd1 := (hb2.cell (p := ⟨g, off + (m + 1), none⟩) hg).trans Hc'.out
            have hgr : g < w2.heap.size := Nat.lt_of_lt_of_le hg hb2.size
            have hgne : ¬ g = g2 := by omega
            obtain ⟨y3, p0, p1, p2⟩ := id hh2
            go_region_held3 (fun w' => w'.cell? ⟨g, off + m, none⟩ = some (.int .i64 u) ∧ w'.cell? ⟨g, off + (m + 1), none⟩ = some (.int .i64 z) ∧ w'.cell? ⟨w.heap.size, 0, none⟩ = some (.int .i64 b) ∧ w'.cell? ⟨w.heap.size, 1, none⟩ = some (.int .i64 r) ∧ w'.cell? ⟨w.heap.size, 2, none⟩ = some (.int .i64 t)) (first | (go_keep; done) | exact ⟨e0, e1, q0, q1, q2⟩) (first
              | (go_at_call 52; refine (within_any _ _ _ _).mono ?_; rintro e w' ⟨rfl, rfl⟩; rw [hin])
              | (go_at_call 47; refine (tier_any _ _ _ _ _ hm0 ht1).mono ?_; rintro e v1 ⟨rfl, hv1⟩; rw [htv]
                 have hb3 : Below w.heap.size w v1 := (hb2.drew).trans (hv1.mono hb2.size)
                 have ho3 := OwnAt.below (w := w2.drew) ho2 hv1
                 have e0 := (hv1.cell (p := ⟨g, off + m, none⟩) hgr).trans hd0
                 have e1 := (hv1.cell (p := ⟨g, off + (m + 1), none⟩) hgr).trans hd1
                 have q0 := (hv1.cell (p := ⟨w.heap.size, 0, none⟩) y3).trans p0
                 have q1 := (hv1.cell (p := ⟨w.heap.size, 1, none⟩) y3).trans p1
                 have q2 := (hv1.cell (p := ⟨w.heap.size, 2, none⟩) y3).trans p2))
            all_goals go_wp2_with (fail)
            all_goals go_ret2
            all_goals exact ⟨some ⟨g2, 0, none⟩, n', c2, by rw [Hf2.out]; rfl, .inr ⟨g2, rfl, by omega, by rw [Hf1.out]; exact ho3⟩, hb3⟩
          | false =>
            rw [hzz] at hct
            have hf1 : takeX b r t bs xs m = xs.set m 0 := by rw [takeX, if_pos hp, hct]; rfl
            have hf2 : takeY b r t bs xs m = u := by rw [takeY, hct, Int.toNat_natCast, hu]; rfl
            have Hf1 := Lib.hid hf1
            have Hf2 := Lib.hid hf2
            clear hf1 hf2 hct hov hxv hx hu hc' e3 hz
            go_enter Try.func30, Try.ntmps30
            go_wp2_with (first
            | (go_at_call 51; refine (clone_any _ _ _ _ _ hZ1 hn20).mono ?_; rintro e w2 ⟨v2, rfl, hr2, h2⟩
               obtain ⟨g2, c2, rfl, hg2, ho2⟩ := row_some hr2 hn1
               have hb2 := hb1.trans (h2.mono hb1.size)
               have hh2 := hh1.below h2)
            | (go_at_call 20; refine (implPlanValid_any _ _ _ _ _ _ _ _ _ _ _ _ (H.out.alloc _) (H'.out.alloc _)).mono ?_; rintro e w1 ⟨rfl, hb0⟩; rw [hp]
               have hb1 : Below w.heap.size w w1 := Hbe.out.trans (hb0.mono Hbe.out.size)
               have hs1 := hb1.size
               have hh1 := H3.out.below hb0
               have hZ1 := H'.out.below hb1))
            have hd0 := (hb2.cell (p := ⟨g, off + m, none⟩) hg).trans Hc.out
            rw [Hu.out] at hd0
            have hd1 := (hb2.cell (p := ⟨g, off + (m + 1), none⟩) hg).trans Hc'.out
            have hgr : g < w2.heap.size := Nat.lt_of_lt_of_le hg hb2.size
            have hgne : ¬ g = g2 := by omega
            obtain ⟨y3, p0, p1, p2⟩ := id hh2
            go_region_held3 (fun w' => w'.cell? ⟨g, off + m, none⟩ = some (.int .i64 u) ∧ w'.cell? ⟨g, off + (m + 1), none⟩ = some (.int .i64 z) ∧ w'.cell? ⟨w.heap.size, 0, none⟩ = some (.int .i64 b) ∧ w'.cell? ⟨w.heap.size, 1, none⟩ = some (.int .i64 r) ∧ w'.cell? ⟨w.heap.size, 2, none⟩ = some (.int .i64 t)) (first | (go_keep; done) | exact ⟨e0, e1, q0, q1, q2⟩) (first
              | (go_at_call 52; refine (within_any _ _ _ _).mono ?_; rintro e w' ⟨rfl, rfl⟩; rw [hin])
              | (go_at_call 47; refine (tier_any _ _ _ _ _ hm0 ht1).mono ?_; rintro e v1 ⟨rfl, hv1⟩; rw [htv]
                 have hb3 : Below w.heap.size w v1 := (hb2.drew).trans (hv1.mono hb2.size)
                 have ho3 := OwnAt.below (w := w2.drew) ho2 hv1
                 have e0 := (hv1.cell (p := ⟨g, off + m, none⟩) hgr).trans hd0
                 have e1 := (hv1.cell (p := ⟨g, off + (m + 1), none⟩) hgr).trans hd1
                 have q0 := (hv1.cell (p := ⟨w.heap.size, 0, none⟩) y3).trans p0
                 have q1 := (hv1.cell (p := ⟨w.heap.size, 1, none⟩) y3).trans p1
                 have q2 := (hv1.cell (p := ⟨w.heap.size, 2, none⟩) y3).trans p2))
            all_goals
              have hgc := ho3.cell hm
              have hgf := ho3.free m
              rw [Hu.out] at hgc
              go_wp2_with (fail)
              go_quiet (fail)
              go_wp2
              go_ret2
              exact ⟨some ⟨g2, 0, none⟩, n', c2, by rw [Hf2.out]; rfl, .inr ⟨g2, rfl, by omega, by rw [Hf1.out]; exact (ho3.set_ m 0).drewN _⟩, below_drewN (hb3.setCell (by simp; omega) _) _⟩
        · have hov : overB t xs m = false := by rw [overB, htv, decide_eq_false htt]; rfl
          have hct : canTake b r t bs xs m = true := by
            rw [canTake, hp, Hl'.out, hin, Int.toNat_natCast, hxv, hov]; rfl
          have htt' : t - 1 ≤ tv := by omega
          have hf1 : takeX b r t bs xs m = xs.set m 0 := by rw [takeX, if_pos hp, hct]; rfl
          have hf2 : takeY b r t bs xs m = u := by rw [takeY, hct, Int.toNat_natCast, hu]; rfl
          have Hf1 := Lib.hid hf1
          have Hf2 := Lib.hid hf2
          clear hf1 hf2 hct hov hxv hx hu
          go_enter Try.func30, Try.ntmps30
          go_wp2_with (first
          | (go_at_call 51; refine (clone_any _ _ _ _ _ hZ1 hn20).mono ?_; rintro e w2 ⟨v2, rfl, hr2, h2⟩
             obtain ⟨g2, c2, rfl, hg2, ho2⟩ := row_some hr2 hn1
             have hb2 := hb1.trans (h2.mono hb1.size)
             have hh2 := hh1.below h2)
          | (go_at_call 20; refine (implPlanValid_any _ _ _ _ _ _ _ _ _ _ _ _ (H.out.alloc _) (H'.out.alloc _)).mono ?_; rintro e w1 ⟨rfl, hb0⟩; rw [hp]
             have hb1 : Below w.heap.size w w1 := Hbe.out.trans (hb0.mono Hbe.out.size)
             have hs1 := hb1.size
             have hh1 := H3.out.below hb0
             have hZ1 := H'.out.below hb1))
          have hd0 := (hb2.cell (p := ⟨g, off + m, none⟩) hg).trans Hc.out
          rw [Hu.out] at hd0
          have hgr : g < w2.heap.size := Nat.lt_of_lt_of_le hg hb2.size
          have hgne : ¬ g = g2 := by omega
          obtain ⟨y3, p0, p1, p2⟩ := id hh2
          first
          | (go_region_with (first
            | (go_at_call 52; refine (within_any _ _ _ _).mono ?_; rintro e w' ⟨rfl, rfl⟩; rw [hin])
            | (go_at_call 47; refine (tier_any _ _ _ _ _ hm0 ht1).mono ?_; rintro e v1 ⟨rfl, hv1⟩; rw [htv]
               have hb3 : Below w.heap.size w v1 := (hb2.drew).trans (hv1.mono hb2.size)
               have ho3 := OwnAt.below (w := w2.drew) ho2 hv1
               have e0 := (hv1.cell (p := ⟨g, off + m, none⟩) hgr).trans hd0
               have q0 := (hv1.cell (p := ⟨w.heap.size, 0, none⟩) y3).trans p0
               have q1 := (hv1.cell (p := ⟨w.heap.size, 1, none⟩) y3).trans p1
               have q2 := (hv1.cell (p := ⟨w.heap.size, 2, none⟩) y3).trans p2)))
          | fail
          all_goals
            have hgc := ho3.cell hm
            have hgf := ho3.free m
            rw [Hu.out] at hgc
            go_wp2_with (fail)
            go_quiet (fail)
            go_wp2
            go_ret2
            exact ⟨some ⟨g2, 0, none⟩, n', c2, by rw [Hf2.out]; rfl, .inr ⟨g2, rfl, by omega, by rw [Hf1.out]; exact (ho3.set_ m 0).drewN _⟩, below_drewN (hb3.setCell (by simp; omega) _) _⟩
end Go.Proofs.Ytfdnikmmfnhmbaa
