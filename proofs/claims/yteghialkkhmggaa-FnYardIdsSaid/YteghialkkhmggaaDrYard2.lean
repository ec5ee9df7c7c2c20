/- The drawers of the yard laws. Conditions: that the code reads as bytes. -/
import Derived.Test.YteghialkkhmggaaDrYard
import Derived.Test.YteghialkkhmggaaYardF
namespace Go.Proofs.Yteghialkkhmggaa
open Go.RowKit
set_option linter.unusedVariables false

def DrawY (w : World) (e : Ending) (w' : World) : Prop :=
  ∃ (hi : Int) (A : Option Addr) (n c : Nat) (sss : List (List Int)), e = .returned (.agg #[.int .i64 hi, .slice A n c]) ∧ SS w' w.heap.size (.slice A n c) n sss ∧ n ≤ 8 ∧ Below w.heap.size w w'
def DrawYI (w : World) (e : Ending) (w' : World) : Prop :=
  ∃ (hi x : Int) (A : Option Addr) (n c : Nat) (sss : List (List Int)), e = .returned (.tuple #[.agg #[.int .i64 hi, .slice A n c], .int .i64 x]) ∧ SS w' w.heap.size (.slice A n c) n sss ∧ n ≤ 8 ∧ Below w.heap.size w w'

set_option maxHeartbeats 800000 in
theorem drawYardValid_any (A : Option Addr) (n c : Nat) (zs : List Int) (w : World) (h : IsRow .u8 w A n c zs) :
    Calls Try.prog 30 #[.slice A n c] w (DrawY w) := by
  have H := Lib.hid h
  clear h
  go_enter Try.func30, Try.ntmps30
  have hR0 : Vr (w.alloc (.cells #[.int .i64 0, .slice none 0 0] 27)) w.heap.size 0 (.slice none 0 0) := Vr.new _ _ _
  have hb0 : Below w.heap.size w (w.alloc (.cells #[.int .i64 0, .slice none 0 0] 27)) := (Below.refl _ _).alloc (Nat.le_refl _) _
  go_wp2_with (fail)
  refine (l20Open_any _ _ _ _ _ (H.out.alloc _)).mono ?_
  rintro e w1 ⟨g, rfl, hr1, hb1⟩
  have hR1 := hR0.below hb1
  have hge := hr1.ge
  simp at hge
  have hs1 := hb1.size
  simp at hs1
  have hl1 := hr1.lt
  have hb2 := hb0.trans (hb1.mono (by simp))
  clear hb0 hb1 hR0
  go_wp2_with (fail)
  refine (l20Yard_any _ _ _ _ _ hr1 (by omega) (by omega)).mono ?_
  rintro e w2 ⟨hi, v, m, sss, rfl, hS, hm, hr2, hg2⟩
  have hR2 := hR1.apart hg2 (by intro e; injection e with e; omega)
  obtain ⟨A2, c2, rfl, _, _⟩ := hS.stk
  have hb3 := below_grown_step hg2 hb2 (by omega) (by omega)
  clear hg2 hb2 hR1
  obtain ⟨r0, r1, e0, e1⟩ := hR2.cells
  have hrl := hR2.lt
  go_wp2_with (fail)
  have hF := (hR2.high hi).put (.slice A2 m c2)
  obtain ⟨q0, q1, _, _⟩ := hF.cells
  refine bodyPost_ret (v := .agg #[.int .i64 hi, .slice A2 m c2]) (by simp [results, Try.results30, go_sem, q0, q1]) rfl ⟨hi, A2, m, c2, sss, rfl, ((hS.setCell (p := ⟨w.heap.size, 0, none⟩) (by simp; omega) _).setCell (p := ⟨w.heap.size, 1, none⟩) (by simp; omega) _).less (by omega), hm, (hb3.setCell (p := ⟨w.heap.size, 0, none⟩) (by simp) _).setCell (p := ⟨w.heap.size, 1, none⟩) (by simp) _⟩

set_option maxHeartbeats 800000 in
theorem drawYardIds_any (A : Option Addr) (n c : Nat) (zs : List Int) (w : World) (h : IsRow .u8 w A n c zs) :
    Calls Try.prog 34 #[.slice A n c] w (DrawY w) := by
  have H := Lib.hid h
  clear h
  go_enter Try.func34, Try.ntmps34
  have hR0 : Vr (w.alloc (.cells #[.int .i64 0, .slice none 0 0] 27)) w.heap.size 0 (.slice none 0 0) := Vr.new _ _ _
  have hb0 : Below w.heap.size w (w.alloc (.cells #[.int .i64 0, .slice none 0 0] 27)) := (Below.refl _ _).alloc (Nat.le_refl _) _
  go_wp2_with (fail)
  refine (l20Open_any _ _ _ _ _ (H.out.alloc _)).mono ?_
  rintro e w1 ⟨g, rfl, hr1, hb1⟩
  have hR1 := hR0.below hb1
  have hge := hr1.ge
  simp at hge
  have hs1 := hb1.size
  simp at hs1
  have hl1 := hr1.lt
  have hb2 := hb0.trans (hb1.mono (by simp))
  clear hb0 hb1 hR0
  go_wp2_with (fail)
  refine (l20Yard_any _ _ _ _ _ hr1 (by omega) (by omega)).mono ?_
  rintro e w2 ⟨hi, v, m, sss, rfl, hS, hm, hr2, hg2⟩
  have hR2 := hR1.apart hg2 (by intro e; injection e with e; omega)
  obtain ⟨A2, c2, rfl, _, _⟩ := hS.stk
  have hb3 := below_grown_step hg2 hb2 (by omega) (by omega)
  clear hg2 hb2 hR1
  obtain ⟨r0, r1, e0, e1⟩ := hR2.cells
  have hrl := hR2.lt
  go_wp2_with (fail)
  have hF := (hR2.high hi).put (.slice A2 m c2)
  obtain ⟨q0, q1, _, _⟩ := hF.cells
  refine bodyPost_ret (v := .agg #[.int .i64 hi, .slice A2 m c2]) (by simp [results, Try.results34, go_sem, q0, q1]) rfl ⟨hi, A2, m, c2, sss, rfl, ((hS.setCell (p := ⟨w.heap.size, 0, none⟩) (by simp; omega) _).setCell (p := ⟨w.heap.size, 1, none⟩) (by simp; omega) _).less (by omega), hm, (hb3.setCell (p := ⟨w.heap.size, 0, none⟩) (by simp) _).setCell (p := ⟨w.heap.size, 1, none⟩) (by simp) _⟩

set_option maxHeartbeats 800000 in
theorem drawYardFind_any (A : Option Addr) (n c : Nat) (zs : List Int) (w : World) (h : IsRow .u8 w A n c zs) :
    Calls Try.prog 32 #[.slice A n c] w (DrawYI w) := by
  have H := Lib.hid h
  clear h
  go_enter Try.func32, Try.ntmps32
  have hR0 : Vr (w.alloc (.cells #[.int .i64 0, .slice none 0 0] 27)) w.heap.size 0 (.slice none 0 0) := Vr.new _ _ _
  have hb0 : Below w.heap.size w (w.alloc (.cells #[.int .i64 0, .slice none 0 0] 27)) := (Below.refl _ _).alloc (Nat.le_refl _) _
  go_wp2_with (fail)
  refine (l20Open_any _ _ _ _ _ (H.out.alloc _)).mono ?_
  rintro e w1 ⟨g, rfl, hr1, hb1⟩
  have hR1 := hR0.below hb1
  have hge := hr1.ge
  simp at hge
  have hs1 := hb1.size
  simp at hs1
  have hl1 := hr1.lt
  have hb2 := hb0.trans (hb1.mono (by simp))
  clear hb0 hb1 hR0
  go_wp2_with (fail)
  refine (l20Yard_any _ _ _ _ _ hr1 (by omega) (by omega)).mono ?_
  rintro e w2 ⟨hi, v, m, sss, rfl, hS, hm, hr2, hg2⟩
  have hR2 := hR1.apart hg2 (by intro e; injection e with e; omega)
  obtain ⟨A2, c2, rfl, _, _⟩ := hS.stk
  have hb3 := below_grown_step hg2 hb2 (by omega) (by omega)
  have hs2 := hb3.size
  clear hg2 hb2 hR1
  go_wp2_with (fail)
  refine (pick_any _ _ _ _ _ hr2 (by omega)).mono ?_
  rintro e w3 ⟨x, rfl, hx0, hx1, hr3, hg3⟩
  have hR3 := hR2.apart hg3 (by intro e; injection e with e; omega)
  have hS3 := hS.pick hg3 hl1
  have hb4 := below_grown_step hg3 hb3 (by omega) hs2
  clear hg3 hb3 hR2 hS
  obtain ⟨r0, r1, e0, e1⟩ := hR3.cells
  have hrl := hR3.lt
  go_wp2_with (fail)
  have hF := (hR3.high hi).put (.slice A2 m c2)
  obtain ⟨q0, q1, _, _⟩ := hF.cells
  refine bodyPost_ret (v := .tuple #[.agg #[.int .i64 hi, .slice A2 m c2], .int .i64 x]) (by simp [results, Try.results32, go_sem, q0, q1]) rfl ⟨hi, x, A2, m, c2, sss, rfl, ((hS3.setCell (p := ⟨w.heap.size, 0, none⟩) (by simp; omega) _).setCell (p := ⟨w.heap.size, 1, none⟩) (by simp; omega) _).less (by omega), hm, (hb4.setCell (p := ⟨w.heap.size, 0, none⟩) (by simp) _).setCell (p := ⟨w.heap.size, 1, none⟩) (by simp) _⟩
end Go.Proofs.Yteghialkkhmggaa
