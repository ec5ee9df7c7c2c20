/- Slices of slices of integers that a call owns; append at them. Conditions: those in each statement. -/
import Derived.Test.YteghialkkhmggaaStkOwn
import Derived.Test.YteghialkkhmggaaAppZ
import Derived.Test.YteghialkkhmggaaRd
namespace Go.Proofs.Yteghialkkhmggaa
open Go.RowKit
set_option linter.unusedVariables false

/-- a reader is not touched by what turns a row above it -/
theorem RdOk.row {w w' : World} {B g N B2 n : Nat} {v : Value} {xs : List Int} (h : RdOk w B g N) (hr : RowI w B2 v n xs) (hg : w.grownBy w' v.ownBlock) (hB : g < B2) : RdOk w' B g N := by
  have hlt := h.lt
  have hge := h.ge
  have key : ∀ k, k < w.heap.size → k < B2 → w'.heap[k]? = w.heap[k]? := by
    intro k h1 h2
    refine hg.block k h1 (fun e => ?_)
    rcases hr.block with e2 | ⟨g2, e2, h3, h4⟩
    · rw [e2] at e; cases e
    · rw [e2] at e; injection e with e; omega
  obtain ⟨A, n, c, zs, p, h0, h1, h2, h3, h4⟩ := h
  exact ⟨A, n, c, zs, p, h0, h1, (key g hlt hB).trans h2, h3, h4.keep fun b o hb => World.cell?_of_block (a := ⟨b, o, none⟩) (key b (by omega) (by omega))⟩
theorem only_row {a w w' : World} {g B2 n : Nat} {v : Value} {xs : List Int} (k : a.grownBy w (some g)) (hr : RowI w B2 v n xs) (hg : w.grownBy w' v.ownBlock) (hB : a.heap.size ≤ B2) : a.grownBy w' (some g) := by
  refine ⟨hg.os.trans k.os, hg.tape.trans k.tape, hg.output.trans k.output, Nat.le_trans k.size hg.size, fun i hi hne => (hg.block i (Nat.lt_of_lt_of_le hi k.size) (fun e => ?_)).trans (k.block i hi hne)⟩
  rcases hr.block with e2 | ⟨g2, e2, h3, h4⟩
  · rw [e2] at e; cases e
  · rw [e2] at e; injection e with e; omega
theorem RowI.pick {w w' : World} {B2 n g : Nat} {v : Value} {xs : List Int} (h : RowI w B2 v n xs) (hg : w.grownBy w' (some g)) (hB : g < B2) : RowI w' B2 v n xs := by
  obtain ⟨A, c, rfl, ho⟩ := h.own
  refine RowI.of_own ?_
  rcases ho with e | ⟨g1, e, h1, h2⟩
  · exact .inl e
  · exact .inr ⟨g1, e, h1, h2.grown hg (by omega)⟩

theorem RdOk.apart {w w' : World} {B g N B2 : Nat} {r : Option Nat} (h : RdOk w B g N) (hg : w.grownBy w' r) (hr : ∀ k, r = some k → B2 ≤ k) (hB : g < B2) : RdOk w' B g N := by
  have hlt := h.lt
  have hge := h.ge
  have key : ∀ k, k < w.heap.size → k < B2 → w'.heap[k]? = w.heap[k]? := fun k h1 h2 => hg.block k h1 (fun e => by have := hr k e.symm; omega)
  obtain ⟨A, n, c, zs, p, h0, h1, h2, h3, h4⟩ := h
  exact ⟨A, n, c, zs, p, h0, h1, (key g hlt hB).trans h2, h3, h4.keep fun b o hb => World.cell?_of_block (a := ⟨b, o, none⟩) (key b (by omega) (by omega))⟩
theorem only_apart {a w w' : World} {g B2 : Nat} {r : Option Nat} (k : a.grownBy w (some g)) (hg : w.grownBy w' r) (hr : ∀ k, r = some k → B2 ≤ k) (hB : a.heap.size ≤ B2) : a.grownBy w' (some g) :=
  ⟨hg.os.trans k.os, hg.tape.trans k.tape, hg.output.trans k.output, Nat.le_trans k.size hg.size, fun i hi hne => (hg.block i (Nat.lt_of_lt_of_le hi k.size) (fun e => by have := hr i e.symm; omega)).trans (k.block i hi hne)⟩
theorem below_apart {w w1 w2 : World} {B : Nat} {r : Option Nat} (hb : Below B w w1) (hg : w1.grownBy w2 r) (hr : ∀ k, r = some k → B ≤ k) (hB : B ≤ w1.heap.size) : Below B w w2 :=
  hb.trans ⟨hg.os, hg.tape, hg.output, hg.size, fun k hk => hg.block k (by omega) (fun e => by have := hr k e.symm; omega)⟩

/-- a value is a slice that owns a list -/
def SlOwn (w : World) (B : Nat) (u : Value) (xs : List Int) : Prop := ∃ A n c, u = .slice A n c ∧ Own w B A n c xs
abbrev RowS (w : World) (B : Nat) (v : Value) (n : Nat) (vs : List Value) : Prop := w.ownsRow B 33 1 v n vs
/-- a slice of slices that owns a list of lists -/
def SS (w : World) (B : Nat) (v : Value) (n : Nat) (sss : List (List Int)) : Prop :=
  ∃ vs, RowS w B v n vs ∧ sss.length = n ∧ ∀ j, j < n → SlOwn w B (vs.getD j undef) (sss.getD j [])

theorem Own.block {w : World} {B n c : Nat} {A : Option Addr} {xs : List Int} (h : Own w B A n c xs) : A = none ∨ ∃ g cs, A = some ⟨g, 0, none⟩ ∧ B ≤ g ∧ w.heap[g]? = some (.cells cs 3 (0, 0)) := by
  rcases h with h | ⟨g, e, hg, cs, h, _⟩
  · exact .inl h.1
  · exact .inr ⟨g, cs, e, hg, h⟩
theorem Own.keep {w w' : World} {B n c : Nat} {A : Option Addr} {xs : List Int} (h : Own w B A n c xs) (hk : ∀ g cs, B ≤ g → w.heap[g]? = some (.cells cs 3 (0, 0)) → w'.heap[g]? = w.heap[g]?) : Own w' B A n c xs := by
  rcases h with h | ⟨g, e, hg, cs, h, h2⟩
  · exact .inl h
  · exact .inr ⟨g, e, hg, cs, (hk g cs hg h).trans h, h2⟩
theorem SlOwn.keep {w w' : World} {B : Nat} {u : Value} {xs : List Int} (h : SlOwn w B u xs) (hk : ∀ g cs, B ≤ g → w.heap[g]? = some (.cells cs 3 (0, 0)) → w'.heap[g]? = w.heap[g]?) : SlOwn w' B u xs := by
  obtain ⟨A, n, c, e, h⟩ := h
  exact ⟨A, n, c, e, h.keep hk⟩
theorem SlOwn.of_row {w : World} {B B' n : Nat} {v : Value} {xs : List Int} (h : RowI w B v n xs) (hB : B' ≤ B) : SlOwn w B' v xs := by
  obtain ⟨A, c, rfl, ho⟩ := h.own
  exact ⟨A, n, c, rfl, ho.less hB⟩
theorem SlOwn.less {w : World} {B B' : Nat} {u : Value} {xs : List Int} (h : SlOwn w B u xs) (hB : B' ≤ B) : SlOwn w B' u xs := by
  obtain ⟨A, n, c, e, h⟩ := h
  exact ⟨A, n, c, e, h.less hB⟩
theorem SS.less {w : World} {B B' n : Nat} {v : Value} {sss : List (List Int)} (h : SS w B v n sss) (hB : B' ≤ B) : SS w B' v n sss := by
  obtain ⟨vs, ⟨h1, h2⟩, h3, h4⟩ := h
  refine ⟨vs, ⟨h1, ?_⟩, h3, fun j hj => (h4 j hj).less hB⟩
  rcases h2 with h2 | ⟨g, cap, cur, e, hg, h5⟩
  · exact .inl h2
  · exact .inr ⟨g, cap, cur, e, Nat.le_trans hB hg, h5⟩
/-- a yard in a local variable -/
def Vr (w : World) (g : Nat) (hi : Int) (v : Value) : Prop := w.heap[g]? = some (.cells #[.int .i64 hi, v] 27 (0, 0))
theorem Vr.new (w : World) (hi : Int) (v : Value) : Vr (w.alloc (.cells #[.int .i64 hi, v] 27)) w.heap.size hi v := heap_alloc_new w _
theorem Vr.lt {w : World} {g : Nat} {hi : Int} {v : Value} (h : Vr w g hi v) : g < w.heap.size := heap_lt' h
theorem Vr.below {w w' : World} {g : Nat} {hi : Int} {v : Value} (h : Vr w g hi v) (hb : Below w.heap.size w w') : Vr w' g hi v := (hb.block g h.lt).trans h
theorem Vr.alloc {w : World} {g : Nat} {hi : Int} {v : Value} (h : Vr w g hi v) (o : Obj) : Vr (w.alloc o) g hi v := h.below ((Below.refl _ _).alloc (Nat.le_refl _) _)
theorem Vr.apart {w w' : World} {g : Nat} {hi : Int} {v : Value} {r : Option Nat} (h : Vr w g hi v) (hg : w.grownBy w' r) (hr : r ≠ some g) : Vr w' g hi v := (hg.block g h.lt (Ne.symm hr)).trans h
theorem Vr.setCell {w : World} {g : Nat} {hi : Int} {v : Value} (h : Vr w g hi v) {p : Addr} (hp : g ≠ p.block) (u : Value) : Vr (w.setCell p u) g hi v := (Below.heap_setCell w p u g hp).trans h
theorem Vr.put {w : World} {g : Nat} {hi : Int} {v : Value} (h : Vr w g hi v) (u : Value) : Vr (w.setCell ⟨g, 1, none⟩ u) g hi u := by
  unfold Vr at h ⊢
  simp [World.setCell, Array.getElem?_modify, h]
theorem Vr.high {w : World} {g : Nat} {hi : Int} {v : Value} (h : Vr w g hi v) (x : Int) : Vr (w.setCell ⟨g, 0, none⟩ (.int .i64 x)) g x v := by
  unfold Vr at h ⊢
  simp [World.setCell, Array.getElem?_modify, h]
theorem Vr.cells {w : World} {g : Nat} {hi : Int} {v : Value} (h : Vr w g hi v) : w.cell? ⟨g, 0, none⟩ = some (.int .i64 hi) ∧ w.cell? ⟨g, 1, none⟩ = some v ∧ w.frozen? ⟨g, 0, none⟩ = false ∧ w.frozen? ⟨g, 1, none⟩ = false := by
  unfold Vr at h
  exact ⟨by simp [World.cell?, h], by simp [World.cell?, h], by simp [World.frozen?, h], by simp [World.frozen?, h]⟩
theorem SS.row {w : World} {B n : Nat} {v : Value} {sss : List (List Int)} (h : SS w B v n sss) : ∀ k, v.ownBlock = some k → B ≤ k := by
  obtain ⟨vs, hr, _⟩ := h
  exact fun k hk => (hr.lt k hk).1
theorem SS.length {w : World} {B n : Nat} {v : Value} {sss : List (List Int)} (h : SS w B v n sss) : sss.length = n := by
  obtain ⟨vs, _, h, _⟩ := h
  exact h
theorem SS.keep {w w' : World} {B n : Nat} {v : Value} {sss : List (List Int)} (h : SS w B v n sss) (hk : ∀ g, B ≤ g → g < w.heap.size → w'.heap[g]? = w.heap[g]?) : SS w' B v n sss := by
  obtain ⟨vs, ⟨h1, h2⟩, h3, h4⟩ := h
  refine ⟨vs, ⟨h1, ?_⟩, h3, fun j hj => (h4 j hj).keep fun g cs hg hh => hk g hg (heap_lt' hh)⟩
  rcases h2 with h2 | ⟨g, cap, cur, e, hg, hh, h5⟩
  · exact .inl h2
  · exact .inr ⟨g, cap, cur, e, hg, (hk g hg (heap_lt' hh)).trans hh, h5⟩
theorem SS.below {w w' : World} {B n : Nat} {v : Value} {sss : List (List Int)} (h : SS w B v n sss) (hb : Below w.heap.size w w') : SS w' B v n sss := h.keep fun g _ hg => hb.block g hg
theorem SS.alloc {w : World} {B n : Nat} {v : Value} {sss : List (List Int)} (h : SS w B v n sss) (o : Obj) : SS (w.alloc o) B v n sss := h.below ((Below.refl _ _).alloc (Nat.le_refl _) _)
theorem SS.apart {w w' : World} {B n : Nat} {v : Value} {sss : List (List Int)} {r : Option Nat} (h : SS w B v n sss) (hg : w.grownBy w' r) (hr : ∀ k, r = some k → k < B) : SS w' B v n sss :=
  h.keep fun g h1 h2 => hg.block g h2 (fun e => by have := hr g e.symm; omega)
theorem SS.pick {w w' : World} {B n g : Nat} {v : Value} {sss : List (List Int)} (h : SS w B v n sss) (hg : w.grownBy w' (some g)) (hB : g < B) : SS w' B v n sss := h.apart hg fun k e => by injection e with e; omega
/-- a row that is made later is not the owned one -/
theorem SS.rowI {w w' : World} {B B2 n m : Nat} {v u : Value} {sss : List (List Int)} {xs : List Int} (h : SS w B v n sss) (wb : World) (hw : SS wb B v n sss) (hk : ∀ g, B ≤ g → g < wb.heap.size → w'.heap[g]? = wb.heap[g]?) : SS w' B v n sss := hw.keep hk
theorem SS.setCell {w : World} {B n : Nat} {v : Value} {sss : List (List Int)} (h : SS w B v n sss) {p : Addr} (hp : p.block < B) (u : Value) : SS (w.setCell p u) B v n sss :=
  h.keep fun g h1 _ => Below.heap_setCell w p u g (by omega)
theorem SS.stk {w : World} {B n : Nat} {v : Value} {sss : List (List Int)} (h : SS w B v n sss) : ∃ A c, v = .slice A n c ∧ IsStk w A n c sss ∧ (∀ p, A = some p → B ≤ p.block ∧ p.block < w.heap.size) := by
  obtain ⟨vs, ⟨h1, h2⟩, h3, h4⟩ := h
  rcases h2 with ⟨rfl, rfl⟩ | ⟨g, cap, cur, rfl, hg, hh, hn, hm, hs, ht⟩
  · exact ⟨none, 0, rfl, ⟨Nat.le_refl _, Nat.zero_le _, h3, fun _ => rfl, fun h => absurd h (by omega)⟩, fun p hp => by cases hp⟩
  · refine ⟨_, cap, rfl, ⟨hn, hm, h3, (fun e => by cases e), fun hn0 => ⟨g, 0, rfl, heap_lt' hh, fun i hi => ?_⟩⟩, fun p hp => by injection hp with hp; subst hp; exact ⟨hg, heap_lt' hh⟩⟩
    obtain ⟨A, m, c, e, ho⟩ := h4 i hi
    refine ⟨A, m, c, ?_, ho.ints⟩
    have e1 : vs[i]? = some (vs.getD i undef) := by
      have hl : i < vs.length := by omega
      simp [List.getD, List.getElem?_eq_getElem hl]
    rw [e, ← ht, List.getElem?_take, if_pos (by omega), Array.getElem?_toList] at e1
    rw [Nat.zero_add]
    simp only [World.cell?, hh]
    exact e1
theorem SS.empty {w : World} {B : Nat} (hB : B ≤ w.heap.size) : SS (w.alloc (.cells #[] 33)) B (.slice (some ⟨w.heap.size, 0, none⟩) 0 0) 0 [] :=
  ⟨[], ⟨rfl, .inr ⟨w.heap.size, 0, #[], rfl, hB, heap_alloc_new w _, Nat.le_refl _, Nat.zero_le _, rfl, rfl⟩⟩, rfl, fun j hj => absurd hj (by omega)⟩
theorem SS.empty' {w : World} {B : Nat} (g : Nat) (hg : w.heap.size = g) (hB : B ≤ w.heap.size) : SS (w.alloc (.cells #[] 33)) B (.slice (some ⟨g, 0, none⟩) 0 0) 0 [] := by subst hg; exact SS.empty hB
theorem SS.nil (w : World) (B : Nat) : SS w B (.slice none 0 0) 0 [] := ⟨[], ⟨rfl, .inl ⟨rfl, rfl⟩⟩, rfl, fun j hj => absurd hj (by omega)⟩
/-- a store into the row itself -/
theorem SS.put {w : World} {B n c g k : Nat} {sss : List (List Int)} {u : Value} {xs : List Int} (h : SS w B (.slice (some ⟨g, 0, none⟩) n c) n sss) (hk : k < n) (hu : SlOwn w B u xs) : SS (w.setCell ⟨g, k, none⟩ u) B (.slice (some ⟨g, 0, none⟩) n c) n (sss.set k xs) := by
  obtain ⟨vs, ⟨h1, h2⟩, h3, h4⟩ := h
  rcases h2 with ⟨e, _⟩ | ⟨g1, cap, cur, e, hg, hh, hn, hm, hs, ht⟩
  · cases e
  · simp only [Value.slice.injEq, Option.some.injEq, Addr.mk.injEq] at e
    obtain ⟨⟨rfl, _⟩, _, rfl⟩ := e
    have hne : ∀ j cs, w.heap[j]? = some (Obj.cells cs 3 (0, 0)) → j ≠ g := by
      intro j cs hj e
      rw [e, hh] at hj
      simp at hj
    refine ⟨vs.set k u, ⟨by simpa using h1, .inr ⟨g, c, cur.setIfInBounds k u, rfl, hg, by simp [World.setCell, Array.getElem?_modify, hh], hn, hm, by simpa using hs, ?_⟩⟩, by simpa using h3, fun j hj => ?_⟩
    · rw [Array.toList_setIfInBounds, List.take_set, ht]
    · by_cases hjk : j = k
      · subst hjk
        have e1 : (vs.set j u).getD j undef = u := by
          have hl : j < vs.length := by omega
          simp [List.getD, hl]
        have e2 : (sss.set j xs).getD j [] = xs := by
          have hl : j < sss.length := by omega
          simp [List.getD, hl]
        rw [e1, e2]
        exact hu.keep fun i cs _ hi => Below.heap_setCell w ⟨g, j, none⟩ u i (hne i cs hi)
      · have e1 : (vs.set k u).getD j undef = vs.getD j undef := by
          have : ¬ k = j := fun e => hjk e.symm
          simp [List.getD, this]
        have e2 : (sss.set k xs).getD j [] = sss.getD j [] := by
          have : ¬ k = j := fun e => hjk e.symm
          simp [List.getD, this]
        rw [e1, e2]
        exact (h4 j hj).keep fun i cs _ hi => Below.heap_setCell w ⟨g, k, none⟩ u i (hne i cs hi)

theorem SlOwn.alloc {w : World} {B : Nat} {u : Value} {xs : List Int} (h : SlOwn w B u xs) (o : Obj) : SlOwn (w.alloc o) B u xs := h.keep fun g cs _ hh => (Below.heap_alloc w o g (heap_lt' hh))
theorem one_sl {w : World} {B : Nat} {u : Value} {xs : List Int} (h : SlOwn w B u xs) : ∀ j, j < 1 → SlOwn w B ([u].getD j undef) ([xs].getD j []) := by
  intro j hj
  obtain rfl : j = 0 := by omega
  exact h
theorem two_sl {w : World} {B : Nat} {u u' : Value} {xs xs' : List Int} (h : SlOwn w B u xs) (h' : SlOwn w B u' xs') : ∀ j, j < 2 → SlOwn w B ([u, u'].getD j undef) ([xs, xs'].getD j []) := by
  intro j hj
  rcases (show j = 0 ∨ j = 1 by omega) with rfl | rfl
  · exact h
  · exact h'
theorem one_cell (w : World) (u : Value) (ty : TypeId) : ∀ j x, [u][j]? = some x → (w.alloc (.cells #[u] ty)).cell? ((⟨w.heap.size, 0, none⟩ : Addr).add j) = some x := by
  intro j x hx
  have hh := heap_alloc_new w (.cells #[u] ty)
  rw [add_off, cell_of_row _ _ _ _ _ _ hh]
  simpa using hx
theorem two_cell (w : World) (u u' : Value) (ty : TypeId) : ∀ j x, [u, u'][j]? = some x → (w.alloc (.cells #[u, u'] ty)).cell? ((⟨w.heap.size, 0, none⟩ : Addr).add j) = some x := by
  intro j x hx
  have hh := heap_alloc_new w (.cells #[u, u'] ty)
  rw [add_off, cell_of_row _ _ _ _ _ _ hh]
  simpa using hx
theorem ss_step {w w' : World} {B n m : Nat} {v v' : Value} {sss ts : List (List Int)} {vs news : List Value} (hr : RowS w B v n vs) (h3 : sss.length = n) (h4 : ∀ j, j < n → SlOwn w B (vs.getD j undef) (sss.getD j []))
    (hl : news.length = m) (htl : ts.length = m) (hn : ∀ j, j < m → SlOwn w B (news.getD j undef) (ts.getD j [])) (h' : RowS w' B v' (n + m) (vs ++ news)) (hg : w.grownBy w' v.ownBlock) : SS w' B v' (n + m) (sss ++ ts) := by
  have hvl : vs.length = n := by have := hr.1; omega
  have hk : ∀ g cs, B ≤ g → w.heap[g]? = some (.cells cs 3 (0, 0)) → w'.heap[g]? = w.heap[g]? := by
    intro g cs _ hh
    refine hg.block g (heap_lt' hh) (fun e => ?_)
    rcases hr.2 with ⟨rfl, _⟩ | ⟨g1, cap, cur, rfl, _, h2, _⟩
    · cases e
    · simp only [Value.ownBlock, Option.some.injEq] at e
      rw [e, h2] at hh
      simp at hh
  refine ⟨vs ++ news, h', by simp [h3, htl], fun j hj => ?_⟩
  by_cases hjn : j < n
  · have e1 : (vs ++ news).getD j undef = vs.getD j undef := by simp [List.getD, List.getElem?_append_left (show j < vs.length by omega)]
    have e2 : (sss ++ ts).getD j [] = sss.getD j [] := by simp [List.getD, List.getElem?_append_left (show j < sss.length by omega)]
    rw [e1, e2]
    exact (h4 j hjn).keep hk
  · have e1 : (vs ++ news).getD j undef = news.getD (j - n) undef := by simp [List.getD, List.getElem?_append_right (show vs.length ≤ j by omega), hvl]
    have e2 : (sss ++ ts).getD j [] = ts.getD (j - n) [] := by simp [List.getD, List.getElem?_append_right (show sss.length ≤ j by omega), h3]
    rw [e1, e2]
    exact (hn (j - n) (by omega)).keep hk

theorem wpList_append_ss {w : World} {ops : Array Oper} {rest : List Oper} {o : Oper} {a : Act} {Q : Exit → Act → World → Prop} (hgd : o.guard = none) (s x : Operand)
    (ho : o.op = .call { callee := .builtin .append, args := #[s, x], argTypes := #[22, 22] })
    (B : Nat) (v : Value) (n : Nat) (sss : List (List Int)) (hs : a.eval s = v) (hown : SS w B v n sss)
    (ad : Addr) (m c : Nat) (news : List Value) (ts : List (List Int)) (hx : a.eval x = .slice (some ad) m c) (hl : news.length = m) (htl : ts.length = m) (hnews : ∀ j u, news[j]? = some u → w.cell? (ad.add j) = some u)
    (hn : ∀ j, j < m → SlOwn w B (news.getD j undef) (ts.getD j [])) (h1 : ∀ u ∈ news, u.oneCell' = true) (hnm : n + m ≤ 100000000) (hB : B ≤ w.heap.size)
    (h : ∀ v' w', SS w' B v' (n + m) (sss ++ ts) → w.grownBy w' v.ownBlock → wpList Try.prog ops Q rest (a.put o.dst v') w') : wpList Try.prog ops Q (o :: rest) a w := by
  obtain ⟨i0, hi, hz0, hz1, hz2⟩ := info_parts ss_info
  obtain ⟨vs, hr, h3, h4⟩ := hown
  refine wpList_append_own w hgd s x 22 ho B 33 i0 _ 1 24 Try.underlying22 hi hz0 hz1 hz2 rfl (by omega) v n vs hs hr ad m c news hx (by omega) hnews h1 (by unfold maxLen; omega) (by omega) hB ?_
  intro v' w' k1 k2 _
  exact h v' w' (ss_step hr h3 h4 hl htl hn k1 k2) k2
end Go.Proofs.Yteghialkkhmggaa
