/- The walk of the law FnExactNumberOf. Conditions: that strconv's table of powers of ten is as its text lays it. -/
import Derived.Test.YtbchikfckfiklaaDoorNoImpl
namespace Go.Proofs.YtbchikfckfiklaaDoor
open Go.RowKit
set_option linter.unusedVariables false

abbrev Tab (w : World) : Prop := Lib.TabIs Tryd.prog w "internal/strconv.uint64pow10" .u64 Lib.pow10Tab
theorem tab_below {w w' : World} (h : Tab w) (hb : Below w.heap.size w w') : Tab w' := by
  have h' : w.var? Tryd.prog "internal/strconv.uint64pow10" = some (Lib.pow10Tab.map fun z => Value.int .u64 z).toArray := h
  show w'.var? Tryd.prog "internal/strconv.uint64pow10" = some (Lib.pow10Tab.map fun z => Value.int .u64 z).toArray
  unfold World.var? at h' ⊢
  cases hg : Tryd.prog.globalNamed "internal/strconv.uint64pow10" with
  | none => rw [hg] at h'; cases h'
  | some g =>
    rw [hg] at h'
    simp only [Option.bind_some] at h' ⊢
    have hlt : g < w.heap.size := by
      rcases Nat.lt_or_ge g w.heap.size with h1 | h1
      · exact h1
      · rw [Array.getElem?_eq_none h1] at h'; cases h'
    rw [hb.block g hlt]
    exact h'

set_option maxHeartbeats 800000 in
theorem fnExactNumberOf_walk (w : World) (owner : ByteArray) (kind serial : Int) (hs : owner.size ≤ maxLen) (wk : (Lit.int .i64 kind).wf = true) (ws : (Lit.int .i64 serial).wf = true) (ht : Tab w) :
    Calls Tryd.prog 3 #[.string owner, .int .i64 kind, .int .i64 serial] w fun e w' => e = .returned (.bool true) ∧ Below w.heap.size w w' := by
  unfold maxLen at hs
  have Ht := Lib.hid ht
  clear ht wk ws
  by_cases hn : 1048576 < owner.size
  · have hn' : (1048576 : Int) < owner.size := by omega
    go_enter Tryd.func3, Tryd.ntmps3
    go_wp2_with (fail)
    go_ret
    exact ⟨rfl, (by repeat' (first | with_reducible exact Below.refl _ _ | with_reducible assumption | with_reducible refine bel_step (by with_reducible assumption) ?_ ?_ | with_reducible refine Below.drew ?_ | with_reducible refine below_drewN ?_ _ | with_reducible refine Below.alloc ?_ ?_ _ | with_reducible refine Below.setCell ?_ ?_ _ | (simp; done) | (simp; omega) | omega | with_reducible refine below_le (by with_reducible assumption) ?_))⟩
  · have hn' : (owner.size : Int) ≤ 1048576 := by omega
    go_enter Tryd.func3, Tryd.ntmps3
    go_wp2_with (fail)
    refine (specNumberOf_any owner kind serial _ (by omega)).mono ?_
    rintro e w1 ⟨rfl, hb1⟩
    go_wp2_with (fail)
    refine (implNumberOf_any owner kind serial _ (by omega) (tab_below Ht.out hb1)).mono ?_
    rintro e w2 ⟨rfl, hb2⟩
    have hb3 := hb1.trans (hb2.mono hb1.size)
    go_wp2_with (fail)
    go_ret
    exact ⟨rfl, hb3⟩
end Go.Proofs.YtbchikfckfiklaaDoor
