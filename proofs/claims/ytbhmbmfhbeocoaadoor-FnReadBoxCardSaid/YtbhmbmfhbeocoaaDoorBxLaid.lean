/- A world in which the listed variables hold what the program's text lays; what the condition gives a walk. No condition of ours. -/
import Derived.Test.YtbhmbmfhbeocoaaDoorRows
import Derived.Test.YtbhmbmfhbeocoaaDoorNumS
import Derived.Lib.LaidIn
import Derived.LaidSub
import Derived.Handed
import Derived.Stop.Joined
import Derived.Stop.LaidErr
import Derived.ProofKit
namespace Go.Proofs.YtbhmbmfhbeocoaaDoor
open Go.RowKit
set_option linter.unusedVariables false

noncomputable def laidWorld (os : Os) : World :=
  let N := (World.settled Tryd.prog os).heap.size
  let w0 := World.holding Tryd.prog os ⟨#[.cells #[.string ⟨#[118, 97, 108, 117, 101, 32, 111, 117, 116, 32, 111, 102, 32, 114, 97, 110, 103, 101]⟩] 96, .cells #[.string ⟨#[105, 110, 118, 97, 108, 105, 100, 32, 115, 121, 110, 116, 97, 120]⟩] 96], #[], []⟩
  let put (h : Array Obj) (g : Nat) (cs : Array Value) : Array Obj := h.modify g fun
    | .cells _ t frozen => .cells cs t frozen
    | o => o
  let lits (d : DataW Unit) : Array Value := match d with
    | .agg l => (l.map fun | .lit (.int k z) => Value.int k z | _ => undef).toArray
    | _ => #[]
  let h0 := put (put w0.heap 0 #[.iface 94 (.pointer (some ⟨N + 1, 0, none⟩))]) 1 #[.iface 94 (.pointer (some ⟨N, 0, none⟩))]
  let h1 := put (put (put h0 2 (lits Rows.laid_internal_strconv_uint64pow10)) 4 (lits Rows.laid_math_bits_deBruijn32tab)) 5 (lits Rows.laid_math_bits_deBruijn64tab)
  { w0 with heap := h1 }

def laid3 : List (String × DataW Unit) := [("math/bits.deBruijn32tab", Rows.laid_math_bits_deBruijn32tab), ("math/bits.deBruijn64tab", Rows.laid_math_bits_deBruijn64tab), ("internal/strconv.uint64pow10", Rows.laid_internal_strconv_uint64pow10)]
def laid5 : List (String × DataW Unit) := laid3 ++ [("strconv.ErrRange", Rows.laid_strconv_ErrRange), ("strconv.ErrSyntax", Rows.laid_strconv_ErrSyntax)]

set_option maxRecDepth 1000000 in
theorem laid_met5 (os : Os) (args : Array Value) : laidMet Tryd.prog laid5 ((laidWorld os).forCall (fun _ _ => 0) ⟨#[], args, []⟩).memory :=
  laidMet_of_run' 8 (by kernel_rfl) (by kernel_rfl)
theorem laid_met3 (os : Os) (args : Array Value) : laidMet Tryd.prog laid3 ((laidWorld os).forCall (fun _ _ => 0) ⟨#[], args, []⟩).memory := by
  have := (laid_met5 os args).filter (fun x => x.1 != "strconv.ErrRange" && x.1 != "strconv.ErrSyntax")
  rwa [show laid5.filter (fun x => x.1 != "strconv.ErrRange" && x.1 != "strconv.ErrSyntax") = laid3 by kernel_rfl] at this

theorem powTab : Rows.laid_internal_strconv_uint64pow10 (H := Unit) = Lib.tabData .u64 Lib.pow10Tab := by kernel_rfl
theorem tab_of_one {w : World} (h : laidMet Tryd.prog [("internal/strconv.uint64pow10", Rows.laid_internal_strconv_uint64pow10)] w) : Tab w := by
  rw [powTab] at h
  exact Lib.tabIs_of_head (P := Tryd.prog) (g := 2) (t := 88) (e := 75) (n := 20) (by kernel_rfl) (by kernel_rfl) (by kernel_rfl) (by kernel_rfl) (by kernel_rfl) (by kernel_rfl) h
theorem tab_of3 {w : World} (h : laidMet Tryd.prog laid3 w) : Tab w := by
  have := h.filter (fun x => x.1 == "internal/strconv.uint64pow10")
  rw [show laid3.filter (fun x => x.1 == "internal/strconv.uint64pow10") = [("internal/strconv.uint64pow10", Rows.laid_internal_strconv_uint64pow10)] by kernel_rfl] at this
  exact tab_of_one this

/-- the two errors' variables hold errors -/
def Errs (w : World) : Prop := (∃ u v, w.cell? ⟨0, 0, none⟩ = some (.iface u v)) ∧ ∃ u v, w.cell? ⟨1, 0, none⟩ = some (.iface u v)
/-- what the walks ask of the listed variables -/
def Tabs (w : World) : Prop := Tab w ∧ Errs w
theorem cell_lt {w : World} {a : Addr} {v : Value} (h : w.cell? a = some v) : a.block < w.heap.size := World.block_lt_of_cell? _ _ h
theorem tabs_below {w w' : World} (h : Tabs w) (hb : Below w.heap.size w w') : Tabs w' := by
  obtain ⟨h1, ⟨a, a', h2⟩, b, b', h3⟩ := h
  exact ⟨tab_below h1 hb, ⟨a, a', (hb.cell (p := ⟨0, 0, none⟩) (cell_lt h2)).trans h2⟩, b, b', (hb.cell (p := ⟨1, 0, none⟩) (cell_lt h3)).trans h3⟩

theorem err_cell {w : World} {n nm : String} {d : DataW Unit} {g : Nat} (h : laidMet Tryd.prog [(n, .iface nm d)] w) (hg : Tryd.prog.globalNamed n = some g) (ht : (Tryd.prog.globals[g]?).map (·.type) = some 48) :
    ∃ u v, w.cell? ⟨g, 0, none⟩ = some (.iface u v) := by
  obtain ⟨ps, ⟨g0, t0, cs0, f0, p0, q0, hg0, ht0, hv0, hd0, _, e0⟩, _, hrows⟩ := h
  obtain rfl := Option.some.inj (hg.symm.trans hg0)
  obtain rfl := Option.some.inj (ht.symm.trans ht0)
  obtain ⟨l0⟩ := cs0
  obtain ⟨f1, u, v, e, _⟩ := iface_of_trod Tryd.underlying48 hd0
  simp only at e
  subst e
  exact ⟨u, v, by simpa using World.var?_cell hg hv0 0⟩
theorem tabs_of5 {w : World} (h : laidMet Tryd.prog laid5 w) : Tabs w := by
  have h1 := h.filter (fun x => x.1 == "internal/strconv.uint64pow10")
  rw [show laid5.filter (fun x => x.1 == "internal/strconv.uint64pow10") = [("internal/strconv.uint64pow10", Rows.laid_internal_strconv_uint64pow10)] by kernel_rfl] at h1
  have h2 := h.filter (fun x => x.1 == "strconv.ErrSyntax")
  rw [show laid5.filter (fun x => x.1 == "strconv.ErrSyntax") = [("strconv.ErrSyntax", Rows.laid_strconv_ErrSyntax)] by kernel_rfl] at h2
  have h3 := h.filter (fun x => x.1 == "strconv.ErrRange")
  rw [show laid5.filter (fun x => x.1 == "strconv.ErrRange") = [("strconv.ErrRange", Rows.laid_strconv_ErrRange)] by kernel_rfl] at h3
  exact ⟨tab_of_one h1, err_cell h2 (by kernel_rfl) (by kernel_rfl), err_cell h3 (by kernel_rfl) (by kernel_rfl)⟩
end Go.Proofs.YtbhmbmfhbeocoaaDoor
