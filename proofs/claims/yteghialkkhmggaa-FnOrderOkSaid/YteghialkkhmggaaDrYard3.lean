/- The drawer of yards and orders. Conditions: that the code reads as bytes. -/
import Derived.Test.YteghialkkhmggaaLeav
namespace Go.Proofs.Yteghialkkhmggaa
open Go.RowKit
set_option linter.unusedVariables false

def DrawYO (w : World) (e : Ending) (w' : World) : Prop :=
  ∃ (hi : Int) (A : Option Addr) (n c : Nat) (sss : List (List Int)) (A' : Option Addr) (n' c' : Nat) (xs : List Int), e = .returned (.tuple #[.agg #[.int .i64 hi, .slice A n c], .slice A' n' c']) ∧ IsStk w' A n c sss ∧ n ≤ 8 ∧ Own w' w.heap.size A' n' c' xs ∧ n' ≤ 60 ∧ Below w.heap.size w w'

set_option maxHeartbeats 1600000 in
theorem drawOrderOk_any (A : Option Addr) (n c : Nat) (zs : List Int) (w : World) (h : IsRow .u8 w A n c zs) :
    Calls Try.prog 37 #[.slice A n c] w (DrawYO w) := by
  have H := Lib.hid h
  clear h
  go_enter Try.func37, Try.ntmps37
  have hR0 : Vr (w.alloc (.cells #[.int .i64 0, .slice none 0 0] 27)) w.heap.size 0 (.slice none 0 0) := Vr.new _ _ _
  have hb0 : Below w.heap.size w (w.alloc (.cells #[.int .i64 0, .slice none 0 0] 27)) := (Below.refl _ _).alloc (Nat.le_refl _) _
  go_wp2_with (fail)
  refine (l20Open_any _ _ _ _ _ (H.out.alloc _)).mono ?_
  rintro e w1 ⟨g, rfl, hr1, hb1⟩
  have hR1 := hR0.below hb1
  have hge := hr1.ge
  simp at hge
  have hs1 := hb1.size
  simp at hs1
  have hl1 := hr1.lt
  have hb2 := hb0.trans (hb1.mono (by simp))
  clear hb0 hb1 hR0
  go_wp2_with (fail)
  refine (l20Yard_any _ _ _ _ _ hr1 (by omega) (by omega)).mono ?_
  rintro e w2 ⟨hi, v, m, sss, rfl, hS, hm, hr2, hg2⟩
  have hR2 := hR1.apart hg2 (by intro e; injection e with e; omega)
  obtain ⟨A2, c2, rfl, _, _⟩ := hS.stk
  have hb3 := below_grown_step hg2 hb2 (by omega) (by omega)
  have hs2 := hb3.size
  clear hg2 hb2 hR1
  obtain ⟨Y, hY⟩ : ∃ Y, w2.heap.size = Y := ⟨_, rfl⟩
  have hY2 : Vr (w2.alloc (.cells #[.int .i64 hi, .slice A2 m c2] 27)) w2.heap.size hi (.slice A2 m c2) := Vr.new _ _ _
  go_wp2_with (fail)
  generalize hw5 : w2.alloc (.cells #[.int .i64 hi, .slice A2 m c2] 27) = w5 at *
  have hb5 : Below w.heap.size w w5 := by rw [← hw5]; exact hb3.alloc hs2 _
  have hR5 : Vr w5 w.heap.size 0 (.slice none 0 0) := by rw [← hw5]; exact hR2.alloc _
  have hS5 : SS w5 w1.heap.size (.slice A2 m c2) m sss := by rw [← hw5]; exact hS.alloc _
  have hr2' : RdOk w2 (w.heap.size + 1) g 100 := by simpa using hr2
  have hr5 : RdOk w5 (w.heap.size + 1) g 100 := by rw [← hw5]; exact hr2'.alloc _
  have hl2 := hr2.lt
  rw [hY] at hY2
  have hgY : ¬ Y = g := by omega
  have hRY : ¬ w.heap.size = Y := by omega
  have hRY' : ¬ Y = w.heap.size := by omega
  clear hw5 hb3 hR2 hS hr2 hr2'
  have hb5d : Below w.heap.size w w5.drew := hb5.drew
  have hR5d : Vr w5.drew w.heap.size 0 (.slice none 0 0) := hR5
  have hY5d : Vr w5.drew Y hi (.slice A2 m c2) := hY2
  have hS5d : SS w5.drew w1.heap.size (.slice A2 m c2) m sss := hS5
  have hr5d : RdOk w5.drew (w.heap.size + 1) g 100 := hr5
  have hs5d := hb5d.size
  obtain ⟨A3, c3, e3, hI5, _⟩ := hS5d.stk
  simp only [Value.slice.injEq, true_and] at e3
  obtain ⟨rfl, rfl⟩ := e3
  obtain ⟨c0, c1, f0, f1⟩ := hY5d.cells
  have hYl := hY5d.lt
  have HI5 := Lib.hid hI5
  have HR5 := Lib.hid hR5d
  have HY5 := Lib.hid hY5d
  have HS5 := Lib.hid hS5d
  have Hr5 := Lib.hid hr5d
  have Hb5 := Lib.hid hb5d
  clear hb5 hR5 hS5 hr5 hY2 hI5 hR5d hY5d hS5d hr5d hb5d
  go_region_held3 (fun w' => w'.cell? ⟨Y, 0, none⟩ = some (.int .i64 hi) ∧ w'.cell? ⟨Y, 1, none⟩ = some (.slice A2 m c2)) (first | (go_keep; done) | exact ⟨d0, d1⟩)
    (first
      | (go_at_call 60; refine (l20Leaving_any _ _ _ _ _ _ _ _ _ _ Hr5.out (by omega) (by omega) HI5.out hm).mono ?_
         rintro e w6 ⟨A6, n6, c6, xs, rfl, ho6, hn6, hr6, hg6⟩
         have hR6 := HR5.out.apart hg6 (by intro e; injection e with e; omega)
         have hY6 := HY5.out.apart hg6 (by intro e; injection e with e; omega)
         have hS6 := HS5.out.pick hg6 hl1
         have hb6 := below_grown_step hg6 Hb5.out (by omega) hs5d
         obtain ⟨d0, d1, k0, k1⟩ := hY6.cells
         obtain ⟨r0, r1, k2, k3⟩ := hR6.cells
         have hRl := hR6.lt
         have hYl6 := hY6.lt))
  have hF := (hR6.high hi).put (.slice A2 m c2)
  obtain ⟨q0, q1, _, _⟩ := hF.cells
  go_wp2_with (fail)
  refine bodyPost_ret (v := .tuple #[.agg #[.int .i64 hi, .slice A2 m c2], .slice A6 n6 c6]) (by simp [results, Try.results37, go_sem, q0, q1]) rfl ?_
  have hS7 := (hS6.setCell (p := ⟨w.heap.size, 0, none⟩) (by simp; omega) (.int .i64 hi)).setCell (p := ⟨w.heap.size, 1, none⟩) (by simp; omega) (.slice A2 m c2)
  obtain ⟨A3, c3, e3, hI7, _⟩ := hS7.stk
  simp only [Value.slice.injEq, true_and] at e3
  obtain ⟨rfl, rfl⟩ := e3
  have ho7 : Own ((w6.setCell ⟨w.heap.size, 0, none⟩ (.int .i64 hi)).setCell ⟨w.heap.size, 1, none⟩ (.slice A2 m c2)) w5.drew.heap.size A6 n6 c6 xs := ho6.keep fun i cs hB _ => (Below.heap_setCell _ _ _ i (by simp; omega)).trans (Below.heap_setCell _ _ _ i (by simp; omega))
  exact ⟨hi, A2, m, c2, sss, A6, n6, c6, xs, rfl, hI7, hm, ho7.less hs5d, hn6, (hb6.setCell (p := ⟨w.heap.size, 0, none⟩) (by simp) _).setCell (p := ⟨w.heap.size, 1, none⟩) (by simp) _⟩
end Go.Proofs.Yteghialkkhmggaa
