/- append at rows of boxes. Conditions: those in each statement. -/
import Derived.Test.YtbhmbmfhbeocoaaBoxOwn
import Derived.Laws.AppendOwn
import Derived.Laws.AppendOwnNone
namespace Go.Proofs.Ytbhmbmfhbeocoaa
open Go.RowKit
set_option linter.unusedVariables false

def cellsB (bs : List Bx) : List Value := bs.flatMap Bx.cells
theorem cellsB_append (xs ys : List Bx) : cellsB (xs ++ ys) = cellsB xs ++ cellsB ys := by simp [cellsB]
theorem cells_len (y : Bx) : y.cells.length = 5 := rfl
theorem cellsB_len (xs : List Bx) : (cellsB xs).length = xs.length * 5 := by
  induction xs with
  | nil => rfl
  | cons y l ih => simp only [cellsB, List.flatMap_cons, List.length_append, cells_len, List.length_cons] at ih ⊢; omega
theorem cellsB_one (xs : List Bx) : ∀ u ∈ cellsB xs, u.oneCell' = true := by
  intro u hu
  simp only [cellsB, List.mem_flatMap] at hu
  obtain ⟨y, _, h⟩ := hu
  simp only [Bx.cells, List.mem_cons, List.not_mem_nil, or_false] at h
  rcases h with rfl | rfl | rfl | rfl | rfl <;> rfl
theorem cellsB_at (xs : List Bx) (j i : Nat) (hj : j < xs.length) (hi : i < 5) : (cellsB xs)[j * 5 + i]? = (xs.getD j default).cells[i]? := by
  induction xs generalizing j with
  | nil => simp at hj
  | cons y l ih =>
    cases j with
    | zero =>
      rw [show (0 : Nat) * 5 + i = i by omega]
      simp only [cellsB, List.flatMap_cons]
      rw [List.getElem?_append_left (by rw [cells_len]; exact hi)]
      rfl
    | succ j =>
      have := ih j (by simpa using hj)
      rw [show (j + 1) * 5 + i = 5 + (j * 5 + i) by omega]
      simp only [cellsB, List.flatMap_cons] at this ⊢
      rw [List.getElem?_append_right (by rw [cells_len]; omega), cells_len, show 5 + (j * 5 + i) - 5 = j * 5 + i by omega, this]
      simp [List.getD]

/-- boxes that read as a list, in memory from block B on -/
def OwnB (w : World) (B : Nat) (A : Option Addr) (n c : Nat) (bs : List Bx) : Prop := IsBoxes w A n c bs ∧ ∀ p, A = some p → B ≤ p.block ∧ p.block < w.heap.size
theorem OwnB.boxes {w : World} {B n c : Nat} {A : Option Addr} {bs : List Bx} (h : OwnB w B A n c bs) : IsBoxes w A n c bs := h.1
theorem IsBoxes.keep {w w' : World} {A : Option Addr} {n c : Nat} {bs : List Bx} (h : IsBoxes w A n c bs) (hs : w.heap.size ≤ w'.heap.size) (hk : ∀ b o, A = some ⟨b, o, none⟩ → ∀ j, w'.cell? ⟨b, j, none⟩ = w.cell? ⟨b, j, none⟩) : IsBoxes w' A n c bs := by
  obtain ⟨h1, h2, h3, h4, h5⟩ := h
  refine ⟨h1, h2, h3, h4, fun hn => ?_⟩
  obtain ⟨b, off, e, hlt, hc⟩ := h5 hn
  refine ⟨b, off, e, Nat.lt_of_lt_of_le hlt hs, fun j hj => ?_⟩
  obtain ⟨c0, c1, c2, c3, c4⟩ := hc j hj
  have hk := hk _ _ e
  exact ⟨(hk _).trans c0, (hk _).trans c1, (hk _).trans c2, (hk _).trans c3, (hk _).trans c4⟩
theorem OwnB.below {w w' : World} {B n c : Nat} {A : Option Addr} {bs : List Bx} (h : OwnB w B A n c bs) (hb : Below w.heap.size w w') : OwnB w' B A n c bs :=
  ⟨h.1.below hb, fun p hp => ⟨(h.2 p hp).1, Nat.lt_of_lt_of_le (h.2 p hp).2 hb.size⟩⟩
theorem OwnB.less {w : World} {B B' n c : Nat} {A : Option Addr} {bs : List Bx} (h : OwnB w B A n c bs) (hB : B' ≤ B) : OwnB w B' A n c bs :=
  ⟨h.1, fun p hp => ⟨Nat.le_trans hB (h.2 p hp).1, (h.2 p hp).2⟩⟩
theorem OwnB.grown {w w' : World} {B n c : Nat} {A : Option Addr} {bs : List Bx} (h : OwnB w B A n c bs) {r : Option Nat} (hg : w.grownBy w' r) (hne : ∀ p, A = some p → some p.block ≠ r) : OwnB w' B A n c bs := by
  refine ⟨h.1.keep hg.size fun b o e j => World.cell?_of_block (hg.block b (h.2 _ e).2 (hne _ e)), fun p hp => ⟨(h.2 p hp).1, Nat.lt_of_lt_of_le (h.2 p hp).2 hg.size⟩⟩
theorem OwnB.pick {w w' : World} {B n c g : Nat} {A : Option Addr} {bs : List Bx} (h : OwnB w B A n c bs) (hg : w.grownBy w' (some g)) (hB : g < B) : OwnB w' B A n c bs :=
  h.grown hg fun p hp e => by
    have := (h.2 p hp).1
    injection e with e
    omega

abbrev RowB (w : World) (B : Nat) (v : Value) (n : Nat) (bs : List Bx) : Prop := w.ownsRow B 25 5 v n (cellsB bs)
theorem RowB.own {w : World} {B n : Nat} {v : Value} {bs : List Bx} (h : RowB w B v n bs) : ∃ A c, v = .slice A n c ∧ OwnB w B A n c bs := by
  obtain ⟨h1, h2⟩ := h
  have hl : bs.length = n := by rw [cellsB_len] at h1; omega
  rcases h2 with ⟨rfl, rfl⟩ | ⟨g, cap, cur, rfl, hg, hh, hn, hm, hs, ht⟩
  · exact ⟨none, 0, rfl, ⟨Nat.le_refl _, Nat.zero_le _, hl, fun _ => rfl, fun h => absurd h (by omega)⟩, fun p hp => by cases hp⟩
  · refine ⟨_, cap, rfl, ⟨hn, hm, hl, (fun e => by cases e), fun hn0 => ⟨g, 0, rfl, heap_lt' hh, fun j hj => ?_⟩⟩, fun p hp => ?_⟩
    · rw [boxAt_iff]
      intro i u hu
      have hi : i < 5 := by
        have := (List.getElem?_eq_some_iff.1 hu).1
        rwa [cells_len] at this
      have e := cellsB_at bs j i (by omega) hi
      rw [hu, ← ht, List.getElem?_take, if_pos (by omega), Array.getElem?_toList] at e
      simp only [World.cell?, hh, Nat.zero_add]
      exact e
    · injection hp with hp
      subst hp
      exact ⟨hg, heap_lt' hh⟩
theorem RowB.block {w : World} {B n : Nat} {v : Value} {bs : List Bx} (h : RowB w B v n bs) : v.ownBlock = none ∨ ∃ g, v.ownBlock = some g ∧ B ≤ g ∧ g < w.heap.size := by
  obtain ⟨A, c, rfl, ho⟩ := h.own
  cases A with
  | none => exact .inl rfl
  | some p => exact .inr ⟨p.block, rfl, (ho.2 p rfl).1, (ho.2 p rfl).2⟩
theorem RowB.kept {w w' : World} {B n : Nat} {v : Value} {bs : List Bx} (h : RowB w B v n bs) (hk : ∀ k, B ≤ k → k < w.heap.size → w'.heap[k]? = w.heap[k]?) : RowB w' B v n bs := by
  obtain ⟨h1, h2⟩ := h
  rcases h2 with h2 | ⟨g, cap, cur, e, hg, hh, h3⟩
  · exact ⟨h1, .inl h2⟩
  · exact ⟨h1, .inr ⟨g, cap, cur, e, hg, (hk g hg (heap_lt' hh)).trans hh, h3⟩⟩
theorem RowB.below {w w' : World} {B n : Nat} {v : Value} {bs : List Bx} (h : RowB w B v n bs) (hb : Below w.heap.size w w') : RowB w' B v n bs := h.kept fun k _ hk => hb.block k hk
theorem RowB.alloc {w : World} {B n : Nat} {v : Value} {bs : List Bx} (h : RowB w B v n bs) (o : Obj) : RowB (w.alloc o) B v n bs := h.below ((Below.refl _ _).alloc (Nat.le_refl _) _)
theorem RowB.pick {w w' : World} {B2 n g : Nat} {v : Value} {bs : List Bx} (h : RowB w B2 v n bs) (hg : w.grownBy w' (some g)) (hB : g < B2) : RowB w' B2 v n bs :=
  h.kept fun k h1 h2 => hg.block k h2 fun e => by injection e with e; omega
/-- a store into a block that is not the row's -/
theorem RowB.setCell {w : World} {B n : Nat} {v : Value} {bs : List Bx} (h : RowB w B v n bs) {p : Addr} (hp : v.ownBlock ≠ some p.block) (u : Value) : RowB (w.setCell p u) B v n bs := by
  obtain ⟨h1, h2⟩ := h
  rcases h2 with h2 | ⟨g, cap, cur, rfl, hg, hh, h3⟩
  · exact ⟨h1, .inl h2⟩
  · refine ⟨h1, .inr ⟨g, cap, cur, rfl, hg, (Below.heap_setCell w p u g (fun e => hp ?_)).trans hh, h3⟩⟩
    rw [← e]; rfl
theorem below_appendB {w w1 w2 : World} {B n : Nat} {v : Value} {bs : List Bx} (hb : Below B w w1) (hr : RowB w1 B v n bs) (hg : w1.grownBy w2 v.ownBlock) (hB : B ≤ w1.heap.size) : Below B w w2 := by
  rcases hr.block with e | ⟨g, e, h1, h2⟩
  · rw [e] at hg
    exact hb.trans ⟨hg.os, hg.tape, hg.output, hg.size, fun k hk => hg.block k (by omega) (by simp)⟩
  · rw [e] at hg
    exact hb.trans ⟨hg.os, hg.tape, hg.output, hg.size, fun k hk => hg.block k (by omega) (fun e => by injection e with e; omega)⟩
theorem only_rowB {a w w' : World} {g B2 n : Nat} {v : Value} {bs : List Bx} (k : a.grownBy w (some g)) (hr : RowB w B2 v n bs) (hg : w.grownBy w' v.ownBlock) (hB : a.heap.size ≤ B2) : a.grownBy w' (some g) := by
  refine ⟨hg.os.trans k.os, hg.tape.trans k.tape, hg.output.trans k.output, Nat.le_trans k.size hg.size, fun i hi hne => (hg.block i (Nat.lt_of_lt_of_le hi k.size) (fun e => ?_)).trans (k.block i hi hne)⟩
  rcases hr.block with e2 | ⟨g2, e2, h3, h4⟩
  · rw [e2] at e; cases e
  · rw [e2] at e; injection e with e; omega
theorem empty_rowB {w : World} {B : Nat} (hB : B ≤ w.heap.size) : RowB (w.alloc (.cells #[] 25)) B (.slice (some ⟨w.heap.size, 0, none⟩) 0 0) 0 [] :=
  ⟨rfl, .inr ⟨w.heap.size, 0, #[], rfl, hB, heap_alloc_new w _, Nat.le_refl _, Nat.zero_le _, rfl, rfl⟩⟩

theorem wpList_append_boxes {w : World} {ops : Array Oper} {rest : List Oper} {o : Oper} {a : Act} {Q : Exit → Act → World → Prop} (hgd : o.guard = none) (s x : Operand)
    (ho : o.op = .call { callee := .builtin .append, args := #[s, x], argTypes := #[31, 31] })
    (B : Nat) (v : Value) (n : Nat) (xs : List Bx) (hs : a.eval s = v) (hown : RowB w B v n xs)
    (A : Option Addr) (m c : Nat) (ys : List Bx) (hx : a.eval x = .slice A m c) (hr : IsBoxes w A m c ys) (hnm : n + m ≤ 100000000) (hB : B ≤ w.heap.size)
    (h : ∀ v' w', RowB w' B v' (n + m) (xs ++ ys) → w.grownBy w' v.ownBlock → wpList Try.prog ops Q rest (a.put o.dst v') w') : wpList Try.prog ops Q (o :: rest) a w := by
  obtain ⟨i0, hi, hz0, hz1, hz2⟩ := info_parts box_info
  cases A with
  | none =>
    have hc : c = 0 := hr.2.2.2.1 rfl
    have hm : m = 0 := by have := hr.1; omega
    subst hc hm
    have hy : ys = [] := List.eq_nil_of_length_eq_zero hr.length
    subst hy
    refine wpList_append_own_none hgd s x 31 ho B 25 i0 5 Try.underlying31 hi v n (cellsB xs) hs hown hx ?_
    exact h v w (by simpa using hown) (World.grownBy.refl w _)
  | some ad =>
    refine wpList_append_own w hgd s x 31 ho B 25 i0 _ 5 40 Try.underlying31 hi hz0 hz1 hz2 rfl (by omega) v n (cellsB xs) hs hown ad m c (cellsB ys) hx (by rw [cellsB_len, hr.length]) ?_ (cellsB_one ys) (by unfold maxLen; omega) (by omega) hB ?_
    · intro j u hu
      have hj : j < m * 5 := by
        have := (List.getElem?_eq_some_iff.1 hu).1
        rwa [cellsB_len, hr.length] at this
      obtain ⟨b, off, e, _, hc⟩ := hr.at_ (show j / 5 < m by omega)
      injection e with e
      subst e
      have h1 := cellsB_at ys (j / 5) (j % 5) (by rw [hr.length]; omega) (by omega)
      rw [show j / 5 * 5 + j % 5 = j by omega, hu] at h1
      have h2 := boxAt_iff.1 hc (j % 5) u h1.symm
      rw [add_off, ← h2, show off + j / 5 * 5 + j % 5 = off + j by omega]
    · intro v' w' h1 h2 _
      exact h v' w' (by rw [RowB, cellsB_append]; exact h1) h2
end Go.Proofs.Ytbhmbmfhbeocoaa
