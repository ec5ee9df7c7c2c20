/- Small plain words and lemmas of ours that the texts of this claim share: in range, the frame rules for worlds, and how an argument reads. Conditions: none. -/
import Derived.WalkKit
import Derived.WalkSpells
import Derived.WalkLawsBesides
import Derived.Lib.Hide
import Derived.IntWalk
import Derived.Deep.QuietTactic
import Derived.BigQuiet
import Derived.Deep.RegionWith
import Derived.Deep.RegionHeld3
import Derived.Deep.DeepFit
import Derived.OpenShut
namespace Go.Proofs.YtbhmbmfhbeocoaaDoor
open Go.RowKit
set_option linter.unusedVariables false

def inR (n lo hi : Int) : Bool := decide (lo ≤ n) && decide (n ≤ hi)
theorem inR_iff {n lo hi : Int} : inR n lo hi = true ↔ lo ≤ n ∧ n ≤ hi := by simp [inR]
theorem inR_yes {n lo hi : Int} (h : lo ≤ n ∧ n ≤ hi) : inR n lo hi = true := inR_iff.2 h
theorem inR_no {n lo hi : Int} (h : ¬ (lo ≤ n ∧ n ≤ hi)) : inR n lo hi = false := by
  rw [Bool.eq_false_iff]; exact fun h' => h (inR_iff.1 h')

theorem ret_int {k : IntKind} {a b : Int} (h : a = b) : Ending.returned (.int k a) = .returned (.int k b) := by rw [h]
theorem ret_bool {a b : Bool} (h : a = b) : Ending.returned (.bool a) = .returned (.bool b) := by rw [h]

theorem bcell {W w1 : World} (hb : Below W.heap.size W w1) : (∀ b o, b < W.heap.size → w1.cell? ⟨b, o, none⟩ = W.cell? ⟨b, o, none⟩) ∧ (∀ b o, b < W.heap.size → w1.frozen? ⟨b, o, none⟩ = W.frozen? ⟨b, o, none⟩) :=
  ⟨fun b o h => hb.cell (p := ⟨b, o, none⟩) h, fun b o h => hb.frozen (p := ⟨b, o, none⟩) h⟩

theorem below_drewN {B : Nat} {a w : World} (h : Below B a w) (n : Nat) : Below B a (w.drewN n) := ⟨h.os, h.tape, h.output, h.size, h.block⟩

theorem bel_step {B : Nat} {a b c : World} (hb : Below b.heap.size b c) (h : Below B a b) (hB : B ≤ b.heap.size) : Below B a c := h.trans (hb.mono hB)

theorem below_le {B : Nat} {b c : World} (hb : Below b.heap.size b c) (h : B ≤ b.heap.size) : B ≤ c.heap.size := Nat.le_trans h hb.size

/-- three cells of an old block hold what they held behind a call that leaves the old blocks alone -/
theorem held3 {a c : World} {g : Nat} {x y z : Value} (hb : Below a.heap.size a c) (hg : g < a.heap.size)
    (h : a.cell? ⟨g, 0, none⟩ = some x ∧ a.cell? ⟨g, 1, none⟩ = some y ∧ a.cell? ⟨g, 2, none⟩ = some z) :
    c.cell? ⟨g, 0, none⟩ = some x ∧ c.cell? ⟨g, 1, none⟩ = some y ∧ c.cell? ⟨g, 2, none⟩ = some z :=
  ⟨(hb.cell (p := ⟨g, 0, none⟩) hg).trans h.1, (hb.cell (p := ⟨g, 1, none⟩) hg).trans h.2.1, (hb.cell (p := ⟨g, 2, none⟩) hg).trans h.2.2⟩

theorem gheld3 {a c : World} {b g : Nat} {x y z : Value} (hg : a.grownBy c (some g)) (hb : b < a.heap.size) (hne : ¬ b = g)
    (h : a.cell? ⟨b, 0, none⟩ = some x ∧ a.cell? ⟨b, 1, none⟩ = some y ∧ a.cell? ⟨b, 2, none⟩ = some z) :
    c.cell? ⟨b, 0, none⟩ = some x ∧ c.cell? ⟨b, 1, none⟩ = some y ∧ c.cell? ⟨b, 2, none⟩ = some z :=
  have hk := hg.block b hb (fun e => hne (by injection e))
  ⟨(World.cell?_of_block (w := a) (a := ⟨b, 0, none⟩) hk).trans h.1, (World.cell?_of_block (w := a) (a := ⟨b, 1, none⟩) hk).trans h.2.1, (World.cell?_of_block (w := a) (a := ⟨b, 2, none⟩) hk).trans h.2.2⟩

theorem sheld3 {a : World} {p : Addr} {b : Nat} {v x y z : Value} (hne : p.block ≠ b)
    (h : a.cell? ⟨b, 0, none⟩ = some x ∧ a.cell? ⟨b, 1, none⟩ = some y ∧ a.cell? ⟨b, 2, none⟩ = some z) :
    (a.setCell p v).cell? ⟨b, 0, none⟩ = some x ∧ (a.setCell p v).cell? ⟨b, 1, none⟩ = some y ∧ (a.setCell p v).cell? ⟨b, 2, none⟩ = some z := by
  have e (i : Nat) : (a.setCell p v).cell? ⟨b, i, none⟩ = a.cell? ⟨b, i, none⟩ := World.cell?_setCell_other a p ⟨b, i, none⟩ v (fun e => hne (by rw [e]))
  rw [e, e, e]; exact h

theorem quiet_l {P : Program} {f : FuncId} {args : Array Value} {w : World} {v : Value} (h : Calls P f args w fun e w' => e = .returned v ∧ w = w') : Calls P f args w fun e w' => e = .returned v ∧ w' = w :=
  h.mono fun _ _ ⟨a, b⟩ => ⟨a, b.symm⟩

theorem wf_bounds {a : Int} (h : (Lit.int .i64 a).wf = true) : -9223372036854775808 ≤ a ∧ a ≤ 9223372036854775807 := by
  exact bounds_i64 h

/-- What a walk is told of a slice of integers that came in: nil, or a row of cap cells that hold the numbers zs. -/
def IsRow (k : IntKind) (w : World) (a : Option Addr) (len cap : Nat) (zs : List Int) : Prop :=
  (a = none ∧ len = 0 ∧ cap = 0 ∧ zs = []) ∨
  ∃ x, a = some x ∧ len ≤ cap ∧ cap ≤ maxLen ∧ zs.length = cap ∧ (∀ i, i < zs.length → w.cell? (x.add i) = some (.int k (zs.getD i 0))) ∧ ∀ n ∈ zs, (Lit.int k n).wf = true
theorem IsRow.below {k : IntKind} {w w' : World} {a : Option Addr} {len cap : Nat} {zs : List Int} (h : IsRow k w a len cap zs) (hb : Below w.heap.size w w') : IsRow k w' a len cap zs := by
  rcases h with h | ⟨x, e, hl, hm, hz, hcell, hwz⟩
  · exact .inl h
  · refine .inr ⟨x, e, hl, hm, hz, fun i hi => ?_, hwz⟩
    exact (hb.cell (World.block_lt_of_cell? _ _ (hcell i hi))).trans (hcell i hi)
theorem IsRow.alloc {k : IntKind} {w : World} {a : Option Addr} {len cap : Nat} {zs : List Int} (h : IsRow k w a len cap zs) (o : Obj) : IsRow k (w.alloc o) a len cap zs := h.below ((Below.refl _ _).alloc (Nat.le_refl _) _)
end Go.Proofs.YtbhmbmfhbeocoaaDoor
