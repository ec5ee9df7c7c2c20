/- The walk of the law FnSerialOf. Conditions: that the code reads as bytes; that strconv's table is as its text lays it. -/
import Derived.Test.YtbchikfckfiklaaDoorSerBack
namespace Go.Proofs.YtbchikfckfiklaaDoor
open Go.RowKit
set_option linter.unusedVariables false

theorem drawSerialOf_any (A : Option Addr) (n c : Nat) (zs : List Int) (w : World) (h : IsRow .u8 w A n c zs) :
    Calls Tryd.prog 14 #[.slice A n c] w (DrawStr w) := by
  have H := Lib.hid h
  clear h
  go_enter Tryd.func14, Tryd.ntmps14
  go_wp2_with (fail)
  refine (drawNumberValid_any _ _ _ _ _ H.out).mono ?_
  rintro e w1 ⟨s, rfl, hs, hb⟩
  go_wp2_with (fail)
  go_ret
  exact ⟨s, rfl, hs, hb⟩
set_option maxHeartbeats 1600000 in
theorem fnSerialOf_walk (w : World) (A : Option Addr) (n c : Nat) (zs : List Int) (h : IsRow .u8 w A n c zs) (ht : Tab w) :
    Calls Tryd.prog 6 #[.slice A n c] w fun e w' => e = .returned (.bool true) ∧ Below w.heap.size w w' := by
  by_cases hn : 1048576 < n
  · have hn' : (1048576 : Int) < n := by omega
    clear h ht
    go_enter Tryd.func6, Tryd.ntmps6
    go_wp2_with (fail)
    go_ret
    exact ⟨rfl, (by repeat' (first | with_reducible exact Below.refl _ _ | with_reducible assumption | with_reducible refine bel_step (by with_reducible assumption) ?_ ?_ | with_reducible refine Below.drew ?_ | with_reducible refine below_drewN ?_ _ | with_reducible refine Below.alloc ?_ ?_ _ | with_reducible refine Below.setCell ?_ ?_ _ | (simp; done) | (simp; omega) | omega | with_reducible refine below_le (by with_reducible assumption) ?_))⟩
  · have hn' : (n : Int) ≤ 1048576 := by omega
    have H := Lib.hid h
    have Ht := Lib.hid ht
    clear h hn ht
    go_enter Tryd.func6, Tryd.ntmps6
    go_wp2_with (fail)
    refine (drawSerialOf_any _ _ _ _ _ H.out).mono ?_
    rintro e w1 ⟨s, rfl, hs12, hb1⟩
    have hs1 := hb1.size
    go_wp2_with (fail)
    refine (implSerialOf_any s _).mono ?_
    rintro e w2 ⟨rfl, hb2⟩
    have hb3 := hb1.trans (hb2.mono hs1)
    have hs3 := hb3.size
    clear hb2 hb1 hs1
    go_wp2_with (fail)
    refine (specSerialOf_any s _).mono ?_
    rintro e w4 ⟨rfl, hb4⟩
    have hb5 := hb3.trans (hb4.mono hs3)
    have hs5 := hb5.size
    clear hb4 hb3 hs3
    cases hv : nvB s with
    | false =>
      have hfin : serV s = -1 := by simp [serV, hv]
      rw [hfin]
      have Hv := Lib.hid hv
      clear hv hfin
      go_wp2_with (first
        | (go_at_call 13; refine (implNumberValid_any _ _).mono ?_; rintro e w6 ⟨rfl, hb6⟩; rw [Hv.out]; have hb7 := hb5.trans (hb6.mono hs5))
        | (go_at_call 12; refine (alive_any _).mono ?_; rintro e w' ⟨rfl, rfl⟩))
      go_ret
      exact ⟨rfl, hb7⟩
    | true =>
      have hfin : serV s = ser s 6 := by simp [serV, hv]
      have hsz := nv_size hv
      obtain ⟨r1, r2⟩ := ser_range hv 6 (Nat.le_refl _)
      have hback := no_back hv
      have hk := kind_nv hv
      have hb3' := bt_eq s 3 (by omega)
      have hox := own_nv hv
      rw [hfin]
      obtain ⟨x, hx⟩ : ∃ x, ser s 6 = x := ⟨_, rfl⟩
      rw [hx] at r1 hback ⊢
      have hx0 : ¬ x < 0 := by omega
      have hs3' : (3 : Int) < (s.size : Int) := by omega
      have Hback := Lib.hid hback
      have htab := tab_below Ht.out hb5
      have Htab := Lib.hid htab
      clear hv hfin r2 hx htab hback
      have hkk : bt s 3 = 85 ∨ bt s 3 = 74 ∨ bt s 3 = 90 := by
        have h1 := hk.1
        simp only [kindIx] at h1
        split at h1
        · exact .inl (by assumption)
        · split at h1
          · exact .inr (.inl (by assumption))
          · split at h1
            · exact .inr (.inr (by assumption))
            · omega
      clear hk
      rcases hkk with e | e | e
      · have hkx : kindIx (bt s 3) = 0 := by rw [e]; rfl
        rw [e] at hb3'
        have Hkx := Lib.hid hkx
        clear hkx e
        go_wp2_with (fail)
        refine (implNumberOf_any (s.extract 0 3) 0 x _ (by omega) Htab.out).mono ?_
        rintro e w6 ⟨rfl, hb6⟩
        have hb7 := hb5.trans (hb6.mono hs5)
        have hfin := Hback.out
        rw [Hkx.out] at hfin
        rw [hfin]
        clear hfin
        go_wp2_with (fail)
        go_ret
        exact ⟨rfl, hb7⟩
      · have hkx : kindIx (bt s 3) = 1 := by rw [e]; rfl
        rw [e] at hb3'
        have Hkx := Lib.hid hkx
        clear hkx e
        go_wp2_with (fail)
        refine (implNumberOf_any (s.extract 0 3) 1 x _ (by omega) Htab.out).mono ?_
        rintro e w6 ⟨rfl, hb6⟩
        have hb7 := hb5.trans (hb6.mono hs5)
        have hfin := Hback.out
        rw [Hkx.out] at hfin
        rw [hfin]
        clear hfin
        go_wp2_with (fail)
        go_ret
        exact ⟨rfl, hb7⟩
      · have hkx : kindIx (bt s 3) = 2 := by rw [e]; rfl
        rw [e] at hb3'
        have Hkx := Lib.hid hkx
        clear hkx e
        go_wp2_with (fail)
        refine (implNumberOf_any (s.extract 0 3) 2 x _ (by omega) Htab.out).mono ?_
        rintro e w6 ⟨rfl, hb6⟩
        have hb7 := hb5.trans (hb6.mono hs5)
        have hfin := Hback.out
        rw [Hkx.out] at hfin
        rw [hfin]
        clear hfin
        go_wp2_with (fail)
        go_ret
        exact ⟨rfl, hb7⟩
end Go.Proofs.YtbchikfckfiklaaDoor
