/- The walk of the law FnExactReadBox. Conditions: the listed variables are as the program's text lays them. -/
import Derived.Test.YtbhmbmfhbeocoaaDoorBxSpec
namespace Go.Proofs.YtbhmbmfhbeocoaaDoor
open Go.RowKit
set_option linter.unusedVariables false

/-- what a reading gives, in letters -/
theorem read_letters (l : List UInt8) : ∃ (x : Bx) (k : Bool), readB l = (x, k) := ⟨_, _, rfl⟩
def ReadIs (w : World) (x : Bx) (k : Bool) (e : Ending) (w' : World) : Prop :=
  e = .returned (.tuple #[.agg #[.int .i64 x.id, .int .i64 x.wt, .int .i64 x.cl, .int .i64 x.po, .bool x.co], .bool k]) ∧ Below w.heap.size w w'
theorem spec_read {s : ByteArray} (hs : s.size ≤ 1048577) {x : Bx} {k : Bool} (h : readB s.data.toList = (x, k)) (w : World) : Calls Tryd.prog 10 #[.string s] w (ReadIs w x k) := by
  have := specReadBox_any s hs w
  unfold ReadPost at this
  rw [h] at this
  exact this
theorem impl_read {s : ByteArray} (hs : s.size ≤ 1048577) {x : Bx} {k : Bool} (h : readB s.data.toList = (x, k)) (w : World) (hT : Tabs w) : Calls Tryd.prog 11 #[.string s] w (ReadIs w x k) := by
  have := implReadBox_any s hs w hT
  unfold ReadPost at this
  rw [h] at this
  exact this

set_option maxHeartbeats 800000 in
theorem eqBox_same (id wt cl po : Int) (co : Bool) (w : World) :
    Calls Tryd.prog 12 #[.agg #[.int .i64 id, .int .i64 wt, .int .i64 cl, .int .i64 po, .bool co], .agg #[.int .i64 id, .int .i64 wt, .int .i64 cl, .int .i64 po, .bool co]] w fun e w' => e = .returned (.bool true) ∧ Below w.heap.size w w' := by
  go_enter Tryd.func12, Tryd.ntmps12
  cases co <;> go_wp2_with (fail)
  all_goals go_ret
  all_goals exact ⟨rfl, (by repeat' (first | with_reducible exact Below.refl _ _ | with_reducible assumption | with_reducible refine bel_step (by with_reducible assumption) ?_ ?_ | with_reducible refine Below.drew ?_ | with_reducible refine below_drewN ?_ _ | with_reducible refine Below.alloc ?_ ?_ _ | with_reducible refine Below.setCell ?_ ?_ _ | (simp; done) | (simp; omega) | omega | with_reducible refine below_le (by with_reducible assumption) ?_))⟩

set_option maxHeartbeats 1600000 in
theorem fnExactReadBox_walk (w : World) (s : ByteArray) (hs : s.size ≤ maxLen) (hT : Tabs w) :
    Calls Tryd.prog 4 #[.string s] w fun e w' => e = .returned (.bool true) ∧ Below w.heap.size w w' := by
  unfold maxLen at hs
  by_cases hn : 1048576 < s.size
  · have hn' : (1048576 : Int) < s.size := by omega
    clear hT
    go_enter Tryd.func4, Tryd.ntmps4
    go_wp2_with (fail)
    go_ret
    exact ⟨rfl, (by repeat' (first | with_reducible exact Below.refl _ _ | with_reducible assumption | with_reducible refine bel_step (by with_reducible assumption) ?_ ?_ | with_reducible refine Below.drew ?_ | with_reducible refine below_drewN ?_ _ | with_reducible refine Below.alloc ?_ ?_ _ | with_reducible refine Below.setCell ?_ ?_ _ | (simp; done) | (simp; omega) | omega | with_reducible refine below_le (by with_reducible assumption) ?_))⟩
  · have hn' : (s.size : Int) ≤ 1048576 := by omega
    have hsz : s.size ≤ 1048577 := by omega
    obtain ⟨⟨i, t, c, p, o⟩, k, hx⟩ := read_letters s.data.toList
    have HS := Lib.hid (spec_read hsz hx)
    have HI := Lib.hid (impl_read hsz hx)
    have HT := Lib.hid hT
    clear hT hx hn
    go_enter Tryd.func4, Tryd.ntmps4
    go_wp2_with (fail)
    refine (HS.out _).mono ?_
    rintro e w1 ⟨rfl, hb1⟩
    simp only
    have hv : BxVar (w1.alloc (.cells #[.int .i64 i, .int .i64 t, .int .i64 c, .int .i64 p, .bool o] 25)) w1.heap.size ⟨i, t, c, p, o⟩ := by
      unfold BxVar
      exact heap_alloc_new w1 _
    have hb2 : Below w.heap.size w (w1.alloc (.cells #[.int .i64 i, .int .i64 t, .int .i64 c, .int .i64 p, .bool o] 25)) := hb1.alloc hb1.size _
    have Hv := Lib.hid hv
    have Hb2 := Lib.hid hb2
    clear hv hb2 hb1
    go_wp2_with (fail)
    refine (HI.out _ (tabs_below HT.out Hb2.out)).mono ?_
    rintro e w2 ⟨rfl, hb3⟩
    simp only
    have hv1 := Hv.out.below hb3
    have hv2 := hv1.below ((Below.refl _ _).alloc (Nat.le_refl _) (.cells #[.int .i64 i, .int .i64 t, .int .i64 c, .int .i64 p, .bool o] 25))
    have hb4 := Hb2.out.trans (hb3.mono Hb2.out.size)
    have hb5 : Below w.heap.size w (w2.alloc (.cells #[.int .i64 i, .int .i64 t, .int .i64 c, .int .i64 p, .bool o] 25)) := hb4.alloc hb4.size _
    obtain ⟨⟨q0, q1, q2, q3, q4⟩, _⟩ := hv1.cells
    simp only at q0 q1 q2 q3 q4
    have hlt := hv1.lt
    have Hb5 := Lib.hid hb5
    clear hv1 hv2 hb3 hb4 hb5
    cases k
    · go_wp2_with (go_at_call 12; refine (eqBox_same _ _ _ _ _ _).mono ?_; rintro e w3 ⟨rfl, hb6⟩)
      go_ret
      exact ⟨rfl, Hb5.out.trans (hb6.mono Hb5.out.size)⟩
    · go_wp2_with (go_at_call 12; refine (eqBox_same _ _ _ _ _ _).mono ?_; rintro e w3 ⟨rfl, hb6⟩)
      go_ret
      exact ⟨rfl, Hb5.out.trans (hb6.mono Hb5.out.size)⟩
end Go.Proofs.YtbhmbmfhbeocoaaDoor
