/- How arguments that are structs of one-cell fields, or slices of such structs, read: plain facts of ours over any program, and at the type Box. Conditions: those in each statement. -/
import Derived.Test.YtbhmbmfhbeocoaaDoorProg
import Derived.Test.YtbhmbmfhbeocoaaDoorKit
import Derived.Lib.SmallJoins
import Derived.Deep.Slices
import Derived.Deep.Fields
import Derived.ChangeSame
namespace Go.Proofs.YtbhmbmfhbeocoaaDoor
open Go.ChangeShapes Go.WideShapes Go.Deep Go.RowKit
set_option linter.unusedVariables false

section
variable {H : Type} {enc : TypeId × Value → H} {P : Program} {w : World} {base : Nat} {spare : Nat → Bool} {held : Bool}

/-- the fields of a struct, read from its cells -/
theorem fields_of {t : TypeId} {fs : Array Field} {fuel : Nat} {cs : List Value} {x : DataW H × List MemPlace} (hs : P.underlying t = some (.struct fs)) (hone : oneCellFields P fs = true) (hl : cs.length = fs.size)
    (h : DataW.trod enc P w base spare held fuel t cs = some x) :
    ∃ n : Nat, ∀ (j : Nat) (f : Field), fs[j]? = some f → ∃ (c : Value) (y : DataW H × List MemPlace), cs[j]? = some c ∧ DataW.trod enc P w base spare held n f.type [c] = some y := by
  obtain ⟨ys, n, _, _, _, hyl, hf⟩ := DataW.trod_struct hs h
  refine ⟨n, fun j f hj => ?_⟩
  obtain ⟨ho, hk⟩ := hone_of hone j f hj
  have hjl : j < fs.size := (Array.getElem?_eq_some_iff.1 hj).1
  have h1 := hf j f hj
  have e1 : (cs.drop f.offset).take (P.cellsOf f.type) = [cs[j]'(by omega)] := by
    rw [ho, hk, List.drop_eq_getElem_cons (by omega)]; rfl
  rw [e1] at h1
  exact ⟨_, _, List.getElem?_eq_getElem (by omega), h1.trans (List.getElem?_eq_getElem (by omega))⟩

/-- a struct by value: its cells, each with its field's reading -/
theorem value_fields {r : Reach} {b0 : Nat} {t : TypeId} {fs : Array Field} {v : Value} {d : DataW H} {p : List MemPlace} (hs : P.underlying t = some (.struct fs)) (hone : oneCellFields P fs = true) (hC : P.cellsOf t = fs.size)
    (hv : Value.okWide P w r b0 t v) (h : DataW.Trod enc P w base spare held t v d p) :
    ∃ cs : Array Value, v = .agg cs ∧ cs.size = fs.size ∧ ∃ n : Nat, ∀ (j : Nat) (f : Field), fs[j]? = some f → ∃ (c : Value) (y : DataW H × List MemPlace), cs[j]? = some c ∧ DataW.trod enc P w base spare held n f.type [c] = some y := by
  obtain ⟨cs, rfl, hsz⟩ := okWide_struct hs hv
  obtain ⟨fuel, hf⟩ := h
  obtain ⟨n, hn⟩ := fields_of hs hone (cs := cs.toList) (by simpa using hsz.trans hC) hf
  exact ⟨cs, rfl, hsz.trans hC, n, fun j f hj => by simpa using hn j f hj⟩
end

structure Bx where
  id : Int
  wt : Int
  cl : Int
  po : Int
  co : Bool
deriving Inhabited

def Bx.val (x : Bx) : Value := .agg #[.int .i64 x.id, .int .i64 x.wt, .int .i64 x.cl, .int .i64 x.po, .bool x.co]

/-- five cells from o on hold a box -/
def BoxAt (w : World) (b o : Nat) (x : Bx) : Prop :=
  w.cell? ⟨b, o, none⟩ = some (.int .i64 x.id) ∧ w.cell? ⟨b, o + 1, none⟩ = some (.int .i64 x.wt) ∧ w.cell? ⟨b, o + 2, none⟩ = some (.int .i64 x.cl) ∧ w.cell? ⟨b, o + 3, none⟩ = some (.int .i64 x.po) ∧ w.cell? ⟨b, o + 4, none⟩ = some (.bool x.co)

/-- what a walk is told of a slice of boxes -/
def IsBoxes (w : World) (a : Option Addr) (len cap : Nat) (bs : List Bx) : Prop :=
  len ≤ cap ∧ cap ≤ maxLen ∧ bs.length = len ∧ (a = none → cap = 0) ∧ (0 < len → ∃ b off, a = some ⟨b, off, none⟩ ∧ b < w.heap.size ∧ ∀ i, i < len → BoxAt w b (off + i * 5) (bs.getD i default))

theorem list_of_each {α : Type} [Inhabited α] (n : Nat) (p : Nat → α → Prop) (h : ∀ i, i < n → ∃ x, p i x) : ∃ l : List α, l.length = n ∧ ∀ i, i < n → p i (l.getD i default) := by
  induction n with
  | zero => exact ⟨[], rfl, fun i hi => absurd hi (by omega)⟩
  | succ n ih =>
    obtain ⟨l, hl, hp⟩ := ih (fun i hi => h i (by omega))
    obtain ⟨x, hx⟩ := h n (by omega)
    refine ⟨l ++ [x], by simp [hl], fun i hi => ?_⟩
    by_cases hin : i < n
    · have := hp i hin
      simpa [List.getD, List.getElem?_append_left (show i < l.length by omega)] using this
    · obtain rfl : i = n := by omega
      subst hl
      simpa [List.getD] using hx

section
variable {H : Type} {enc : TypeId × Value → H} {w : World} {base : Nat}
theorem add_off (b off i : Nat) : (⟨b, off, none⟩ : Addr).add i = ⟨b, off + i, none⟩ := by
  unfold Addr.add
  by_cases h : i = 0
  · subst h; simp
  · simp [h]

theorem box_cells {n : Nat} {cs : List Value} {x : DataW H × List MemPlace} {spare : Nat → Bool} {held : Bool} (hl : cs.length = 5) (h : DataW.trod enc Tryd.prog w base spare held n 23 cs = some x) :
    ∃ y : Bx, cs = [.int .i64 y.id, .int .i64 y.wt, .int .i64 y.cl, .int .i64 y.po, .bool y.co] ∧ (Lit.int .i64 y.id).wf = true ∧ (Lit.int .i64 y.wt).wf = true ∧ (Lit.int .i64 y.cl).wf = true ∧ (Lit.int .i64 y.po).wf = true := by
  obtain ⟨m, hf⟩ := fields_of Tryd.underlying23 (by kernel_rfl) (by rw [hl]; kernel_rfl) h
  obtain ⟨c0, y0, e0, t0⟩ := hf 0 _ rfl
  obtain ⟨c1, y1, e1, t1⟩ := hf 1 _ rfl
  obtain ⟨c2, y2, e2, t2⟩ := hf 2 _ rfl
  obtain ⟨c3, y3, e3, t3⟩ := hf 3 _ rfl
  obtain ⟨c4, y4, e4, t4⟩ := hf 4 _ rfl
  obtain ⟨b0, q0, _, w0⟩ := DataW.trod_int Tryd.underlying3 t0
  obtain ⟨b1, q1, _, w1⟩ := DataW.trod_int Tryd.underlying3 t1
  obtain ⟨b2, q2, _, w2⟩ := DataW.trod_int Tryd.underlying3 t2
  obtain ⟨b3, q3, _, w3⟩ := DataW.trod_int Tryd.underlying3 t3
  obtain ⟨b4, q4, _⟩ := DataW.trod_bool Tryd.underlying4 t4
  refine ⟨⟨b0, b1, b2, b3, b4⟩, ?_, w0, w1, w2, w3⟩
  match cs, hl with
  | [k0, k1, k2, k3, k4], _ =>
    simp at e0 e1 e2 e3 e4 q0 q1 q2 q3 q4
    subst e0 e1 e2 e3 e4 q0 q1 q2 q3 q4
    rfl

theorem box_read {r : Reach} {b0 : Nat} {v : Value} {d : DataW H} {p : List MemPlace} {spare : Nat → Bool} {held : Bool} (hv : Value.okWide Tryd.prog w r b0 23 v) (h : DataW.Trod enc Tryd.prog w base spare held 23 v d p) :
    ∃ y : Bx, v = y.val ∧ (Lit.int .i64 y.id).wf = true ∧ (Lit.int .i64 y.wt).wf = true ∧ (Lit.int .i64 y.cl).wf = true ∧ (Lit.int .i64 y.po).wf = true := by
  obtain ⟨cs, rfl, hsz⟩ := okWide_struct Tryd.underlying23 hv
  obtain ⟨fuel, hf⟩ := h
  have h5 : cs.size = 5 := hsz.trans (by kernel_rfl)
  obtain ⟨y, hy, hw⟩ := box_cells (cs := cs.toList) (by simpa using h5) hf
  refine ⟨y, ?_, hw⟩
  obtain ⟨l⟩ := cs
  simp at hy
  subst hy
  rfl

end

theorem BoxAt.keep {w w' : World} {b o : Nat} {x : Bx} (h : BoxAt w b o x) (hk : ∀ i, w'.cell? ⟨b, i, none⟩ = w.cell? ⟨b, i, none⟩) : BoxAt w' b o x := by
  obtain ⟨h0, h1, h2, h3, h4⟩ := h
  exact ⟨(hk _).trans h0, (hk _).trans h1, (hk _).trans h2, (hk _).trans h3, (hk _).trans h4⟩
theorem IsBoxes.below {w w' : World} {a : Option Addr} {len cap : Nat} {bs : List Bx} (h : IsBoxes w a len cap bs) (hb : Below w.heap.size w w') : IsBoxes w' a len cap bs := by
  obtain ⟨h1, h2, h3, h4, h5⟩ := h
  refine ⟨h1, h2, h3, h4, fun hn => ?_⟩
  obtain ⟨b, off, e, hlt, hc⟩ := h5 hn
  exact ⟨b, off, e, Nat.lt_of_lt_of_le hlt hb.size, fun i hi => (hc i hi).keep fun k => hb.cell (p := ⟨b, k, none⟩) hlt⟩
theorem IsBoxes.alloc {w : World} {a : Option Addr} {len cap : Nat} {bs : List Bx} (h : IsBoxes w a len cap bs) (o : Obj) : IsBoxes (w.alloc o) a len cap bs := h.below ((Below.refl _ _).alloc (Nat.le_refl _) _)
end Go.Proofs.YtbhmbmfhbeocoaaDoor
