/- Yards as arguments: slices of slices of integers that read as lists of lists; szYard, toYard, eqYard. Conditions: those in each statement. -/
import Derived.Test.YteghialkkhmggaaApp2
import Derived.Lib.SmallJoins
import Derived.Deep.Slices
import Derived.Deep.Fields
import Derived.ChangeSame
namespace Go.Proofs.Yteghialkkhmggaa
open Go.ChangeShapes Go.WideShapes Go.Deep Go.RowKit
set_option linter.unusedVariables false

section
variable {H : Type} {enc : TypeId × Value → H} {P : Program} {w : World} {base : Nat} {spare : Nat → Bool} {held : Bool}

/-- the fields of a struct, read from its cells -/
theorem fields_of {t : TypeId} {fs : Array Field} {fuel : Nat} {cs : List Value} {x : DataW H × List MemPlace} (hs : P.underlying t = some (.struct fs)) (hone : oneCellFields P fs = true) (hl : cs.length = fs.size)
    (h : DataW.trod enc P w base spare held fuel t cs = some x) :
    ∃ n : Nat, ∀ (j : Nat) (f : Field), fs[j]? = some f → ∃ (c : Value) (y : DataW H × List MemPlace), cs[j]? = some c ∧ DataW.trod enc P w base spare held n f.type [c] = some y := by
  obtain ⟨ys, n, _, _, _, hyl, hf⟩ := DataW.trod_struct hs h
  refine ⟨n, fun j f hj => ?_⟩
  obtain ⟨ho, hk⟩ := hone_of hone j f hj
  have hjl : j < fs.size := (Array.getElem?_eq_some_iff.1 hj).1
  have h1 := hf j f hj
  have e1 : (cs.drop f.offset).take (P.cellsOf f.type) = [cs[j]'(by omega)] := by
    rw [ho, hk, List.drop_eq_getElem_cons (by omega)]; rfl
  rw [e1] at h1
  exact ⟨_, _, List.getElem?_eq_getElem (by omega), h1.trans (List.getElem?_eq_getElem (by omega))⟩

/-- a struct by value: its cells, each with its field's reading -/
theorem value_fields {r : Reach} {b0 : Nat} {t : TypeId} {fs : Array Field} {v : Value} {d : DataW H} {p : List MemPlace} (hs : P.underlying t = some (.struct fs)) (hone : oneCellFields P fs = true) (hC : P.cellsOf t = fs.size)
    (hv : Value.okWide P w r b0 t v) (h : DataW.Trod enc P w base spare held t v d p) :
    ∃ cs : Array Value, v = .agg cs ∧ cs.size = fs.size ∧ ∃ n : Nat, ∀ (j : Nat) (f : Field), fs[j]? = some f → ∃ (c : Value) (y : DataW H × List MemPlace), cs[j]? = some c ∧ DataW.trod enc P w base spare held n f.type [c] = some y := by
  obtain ⟨cs, rfl, hsz⟩ := okWide_struct hs hv
  obtain ⟨fuel, hf⟩ := h
  obtain ⟨n, hn⟩ := fields_of hs hone (cs := cs.toList) (by simpa using hsz.trans hC) hf
  exact ⟨cs, rfl, hsz.trans hC, n, fun j f hj => by simpa using hn j f hj⟩
end

/-- the slice of slices A, n, c reads as sss (nil is let in) -/
def IsStk (w : World) (A : Option Addr) (n c : Nat) (sss : List (List Int)) : Prop :=
  n ≤ c ∧ c ≤ maxLen ∧ sss.length = n ∧ (A = none → c = 0) ∧ (0 < n → ∃ b off, A = some ⟨b, off, none⟩ ∧ b < w.heap.size ∧ ∀ i, i < n → ∃ Ai ni ci, w.cell? ⟨b, off + i, none⟩ = some (.slice Ai ni ci) ∧ Ints w Ai ni ci (sss.getD i []))
theorem IsStk.len {w : World} {A : Option Addr} {n c : Nat} {sss : List (List Int)} (h : IsStk w A n c sss) : (n : Int) ≤ 9223372036854775807 := by
  have h1 := h.1
  have h2 := h.2.1
  unfold maxLen at h2
  omega
theorem IsStk.length {w : World} {A : Option Addr} {n c : Nat} {sss : List (List Int)} (h : IsStk w A n c sss) : sss.length = n := h.2.2.1
theorem IsStk.below {w w' : World} {A : Option Addr} {n c : Nat} {sss : List (List Int)} (h : IsStk w A n c sss) (hb : Below w.heap.size w w') : IsStk w' A n c sss := by
  obtain ⟨h1, h2, h3, h4, h5⟩ := h
  refine ⟨h1, h2, h3, h4, fun hn => ?_⟩
  obtain ⟨b, off, e, hlt, hc⟩ := h5 hn
  refine ⟨b, off, e, Nat.lt_of_lt_of_le hlt hb.size, fun i hi => ?_⟩
  obtain ⟨Ai, ni, ci, h6, h7⟩ := hc i hi
  exact ⟨Ai, ni, ci, (hb.cell (p := ⟨b, off + i, none⟩) hlt).trans h6, h7.below hb⟩
theorem IsStk.at_ {w : World} {A : Option Addr} {n c : Nat} {sss : List (List Int)} (h : IsStk w A n c sss) {k : Nat} (hk : k < n) :
    ∃ b off Ai ni ci, A = some ⟨b, off, none⟩ ∧ b < w.heap.size ∧ w.cell? ⟨b, off + k, none⟩ = some (.slice Ai ni ci) ∧ Ints w Ai ni ci (sss.getD k []) := by
  obtain ⟨b, off, e, hlt, hc⟩ := h.2.2.2.2 (by omega)
  obtain ⟨Ai, ni, ci, h6, h7⟩ := hc k hk
  exact ⟨b, off, Ai, ni, ci, e, hlt, h6, h7⟩
theorem IsStk.alloc {w : World} {A : Option Addr} {n c : Nat} {sss : List (List Int)} (h : IsStk w A n c sss) (o : Obj) : IsStk (w.alloc o) A n c sss := h.below ((Below.refl _ _).alloc (Nat.le_refl _) _)

theorem list_of_each {α : Type} (d : α) (n : Nat) (p : Nat → α → Prop) (h : ∀ i, i < n → ∃ x, p i x) : ∃ l : List α, l.length = n ∧ ∀ i, i < n → p i (l.getD i d) := by
  induction n with
  | zero => exact ⟨[], rfl, fun i hi => absurd hi (by omega)⟩
  | succ n ih =>
    obtain ⟨l, hl, hp⟩ := ih (fun i hi => h i (by omega))
    obtain ⟨x, hx⟩ := h n (by omega)
    refine ⟨l ++ [x], by simp [hl], fun i hi => ?_⟩
    by_cases hin : i < n
    · have := hp i hin
      simpa [List.getD, List.getElem?_append_left (show i < l.length by omega)] using this
    · obtain rfl : i = n := by omega
      subst hl
      simpa [List.getD] using hx
theorem add_off (b off i : Nat) : (⟨b, off, none⟩ : Addr).add i = ⟨b, off + i, none⟩ := by
  unfold Addr.add
  by_cases h : i = 0
  · subst h; simp
  · simp [h]

section
variable {H : Type} {enc : TypeId × Value → H} {w : World} {base : Nat}
theorem ints_read {n : Nat} {cs : List Value} {x : DataW H × List MemPlace} {spare : Nat → Bool} {held : Bool} (h : DataW.trod enc Try.prog w base spare held n 33 cs = some x) :
    ∃ a len cap zs, cs = [.slice a len cap] ∧ Ints w a len cap zs := by
  rcases open_ints Try.underlying33 Try.underlying3 (by kernel_rfl) h with ⟨hcs, _⟩ | ⟨x, l, c, zs, hcs, _, hl, hm, hz, _, hcell, hwz⟩
  · exact ⟨none, 0, 0, [], hcs, Ints.nil w⟩
  · have hzl : l ≤ zs.length := by rw [hz]; split <;> omega
    refine ⟨some x, l, c, zs.take l, hcs, hl, hm, by rw [List.length_take]; omega, (fun h => by cases h), fun hn => ?_⟩
    obtain ⟨b, off, spot⟩ := x
    have hc0 := hcell 0 (by omega)
    have hspot : spot = none := by simpa [Addr.add] using World.cell?_spot hc0
    subst hspot
    have hb : b < w.heap.size := by simpa [Addr.add] using World.block_lt_of_cell? _ _ hc0
    refine ⟨b, off, rfl, hb, fun j hj => ?_⟩
    have hc := hcell j (by omega)
    rw [add_off] at hc
    rw [hc]
    simp [List.getD, hj]
theorem stk_read {n : Nat} {cs : List Value} {x : DataW H × List MemPlace} {spare : Nat → Bool} {held : Bool} (h : DataW.trod enc Try.prog w base spare held n 22 cs = some x) :
    ∃ a len cap sss, cs = [.slice a len cap] ∧ IsStk w a len cap sss := by
  rcases open_slice Try.underlying22 h with ⟨hcs, _⟩ | ⟨x, len, cap, m, n', D, Pl, hcs, hb, hl, hm, hmm, _, hi⟩
  · exact ⟨none, 0, 0, [], hcs, Nat.le_refl _, Nat.zero_le _, rfl, fun _ => rfl, fun h => absurd h (by omega)⟩
  · refine ⟨some x, len, cap, ?_⟩
    have hC : Try.prog.cellsOf 33 = 1 := by kernel_rfl
    rcases Nat.eq_zero_or_pos len with h0 | h0
    · subst h0
      exact ⟨[], hcs, Nat.zero_le _, hm, rfl, (fun h => by cases h), fun h => absurd h (by omega)⟩
    · have hlm : len ≤ m := by rw [hmm]; split <;> omega
      have hone : ∀ i, i < len → ∃ (q : Option Addr × Nat × Nat) (zs : List Int), w.cell? (x.add i) = some (.slice q.1 q.2.1 q.2.2) ∧ Ints w q.1 q.2.1 q.2.2 zs := by
        intro i him
        obtain ⟨cs', hc, ht⟩ := hi i (by omega)
        rw [hC] at hc
        obtain ⟨_, hcl, hat⟩ := World.cells?_some hc
        obtain ⟨a, l, c, zs, rfl, hz⟩ := ints_read ht
        have h00 := hat 0 (by omega)
        refine ⟨(a, l, c), zs, ?_, hz⟩
        rw [Nat.mul_one] at h00
        have e0 : (x.add i).add 0 = x.add i := by simp [Addr.add]
        rw [e0] at h00
        rw [h00]
        rfl
      obtain ⟨b, off, spot⟩ := x
      have hspot : spot = none := by
        obtain ⟨_, _, hc, _⟩ := hone 0 h0
        simpa [Addr.add] using World.cell?_spot hc
      subst hspot
      obtain ⟨sss, hsl, hp⟩ := list_of_each ([] : List Int) len (fun i s => ∃ Ai ni ci, w.cell? ⟨b, off + i, none⟩ = some (.slice Ai ni ci) ∧ Ints w Ai ni ci s) (fun i him => by
        obtain ⟨q, zs, h1, h2⟩ := hone i him
        rw [add_off] at h1
        exact ⟨zs, q.1, q.2.1, q.2.2, h1, h2⟩)
      refine ⟨sss, hcs, hl, hm, hsl, (fun h => by cases h), fun _ => ⟨b, off, rfl, ?_, hp⟩⟩
      obtain ⟨_, _, _, h1, _⟩ := hp 0 h0
      simpa using World.block_lt_of_cell? _ _ h1
theorem yard_read {r : Reach} {b0 : Nat} {v : Value} {d : DataW H} {p : List MemPlace} {spare : Nat → Bool} {held : Bool} (hv : Value.okWide Try.prog w r b0 24 v) (h : DataW.Trod enc Try.prog w base spare held 24 v d p) :
    ∃ (hi : Int) (a : Option Addr) (len cap : Nat) (sss : List (List Int)), v = .agg #[.int .i64 hi, .slice a len cap] ∧ (Lit.int .i64 hi).wf = true ∧ IsStk w a len cap sss := by
  obtain ⟨cs, rfl, hsz, n, hf⟩ := value_fields Try.underlying24 (by kernel_rfl) (by kernel_rfl) hv h
  obtain ⟨c0, y0, e0, t0⟩ := hf 0 _ rfl
  obtain ⟨c1, y1, e1, t1⟩ := hf 1 _ rfl
  obtain ⟨hi, q0, _, w0⟩ := DataW.trod_int Try.underlying3 t0
  obtain ⟨a, len, cap, sss, q1, hs⟩ := stk_read t1
  refine ⟨hi, a, len, cap, sss, ?_, w0, hs⟩
  obtain ⟨l⟩ := cs
  simp at q0 q1 e0 e1 hsz
  match l, hsz with
  | [k0, k1], _ =>
    simp at e0 e1
    subst e0 e1 q0 q1
    rfl
end
end Go.Proofs.Yteghialkkhmggaa
