/- append at rows of integers: the rows of the guide's library and ours; appending a slice that reads as a list. Conditions: those in each statement. -/
import Derived.Test.YteghialkkhmggaaOwn2
import Derived.Test.YteghialkkhmggaaShelf
import Derived.Deep.RegionHeld3
import Derived.Laws.AppendOwn
import Derived.Laws.AppendOwnNone
namespace Go.Proofs.Yteghialkkhmggaa
open Go.RowKit
set_option linter.unusedVariables false

def cellsI (xs : List Int) : List Value := xs.map (Value.int .i64)
theorem cellsI_append (xs ys : List Int) : cellsI (xs ++ ys) = cellsI xs ++ cellsI ys := by simp [cellsI]
theorem cellsI_one (xs : List Int) : ∀ u ∈ cellsI xs, u.oneCell' = true := by
  intro u hu
  simp only [cellsI, List.mem_map] at hu
  obtain ⟨y, _, rfl⟩ := hu
  rfl

abbrev RowI (w : World) (B : Nat) (v : Value) (n : Nat) (xs : List Int) : Prop := w.ownsRow B 3 1 v n (cellsI xs)

theorem RowI.own {w : World} {B n : Nat} {v : Value} {xs : List Int} (h : RowI w B v n xs) : ∃ A c, v = .slice A n c ∧ Own w B A n c xs := by
  obtain ⟨h1, h2⟩ := h
  have hl : xs.length = n := by simpa [cellsI] using h1
  rcases h2 with ⟨rfl, rfl⟩ | ⟨g, cap, cur, rfl, hg, hh, hn, hm, hs, ht⟩
  · exact ⟨none, 0, rfl, .inl ⟨rfl, rfl, rfl, by simpa using hl⟩⟩
  · refine ⟨_, cap, rfl, .inr ⟨g, rfl, hg, cur, hh, by omega, hn, hm, hl, fun j hj => ?_⟩⟩
    have e : (cellsI xs)[j]? = some (.int .i64 (xs.getD j 0)) := by
      simp [cellsI, List.getElem?_map, List.getD, List.getElem?_eq_getElem (show j < xs.length by omega)]
    rw [← ht, List.getElem?_take, if_pos (by omega), Array.getElem?_toList] at e
    exact e
theorem RowI.of_own {w : World} {B n c : Nat} {A : Option Addr} {xs : List Int} (h : Own w B A n c xs) : RowI w B (.slice A n c) n xs := by
  rcases h with ⟨rfl, rfl, rfl, rfl⟩ | ⟨g, rfl, hg, cs, hh, hs, hn, hm, hl, hc⟩
  · exact ⟨by simp [cellsI], .inl ⟨rfl, rfl⟩⟩
  · refine ⟨by simp [cellsI, hl], .inr ⟨g, c, cs, rfl, hg, hh, hn, hm, by omega, ?_⟩⟩
    apply List.ext_getElem?
    intro i
    rw [List.getElem?_take]
    by_cases hi : i < n
    · rw [if_pos (by omega), Array.getElem?_toList, hc i hi]
      simp [cellsI, List.getElem?_map, List.getD, List.getElem?_eq_getElem (show i < xs.length by omega)]
    · rw [if_neg (by omega)]
      simp [cellsI, List.getElem?_eq_none (show xs.length ≤ i by omega)]

theorem Own.ints {w : World} {B n c : Nat} {A : Option Addr} {xs : List Int} (h : Own w B A n c xs) : Ints w A n c xs := by
  rcases h with ⟨rfl, rfl, rfl, rfl⟩ | ⟨g, rfl, hg, ho⟩
  · exact Ints.nil w
  · exact ho.ints
theorem Own.below {w w' : World} {B n c : Nat} {A : Option Addr} {xs : List Int} (h : Own w B A n c xs) (hb : Below w.heap.size w w') : Own w' B A n c xs := by
  rcases h with h | ⟨g, e, hg, ho⟩
  · exact .inl h
  · exact .inr ⟨g, e, hg, ho.below hb⟩
theorem Own.less {w : World} {B B' n c : Nat} {A : Option Addr} {xs : List Int} (h : Own w B A n c xs) (hB : B' ≤ B) : Own w B' A n c xs := by
  rcases h with h | ⟨g, e, hg, ho⟩
  · exact .inl h
  · exact .inr ⟨g, e, Nat.le_trans hB hg, ho⟩

theorem wpList_append_ints {w : World} {ops : Array Oper} {rest : List Oper} {o : Oper} {a : Act} {Q : Exit → Act → World → Prop} (hgd : o.guard = none) (s x : Operand)
    (ho : o.op = .call { callee := .builtin .append, args := #[s, x], argTypes := #[33, 33] })
    (B : Nat) (v : Value) (n : Nat) (xs : List Int) (hs : a.eval s = v) (hown : RowI w B v n xs)
    (A : Option Addr) (m c : Nat) (ys : List Int) (hx : a.eval x = .slice A m c) (hr : Ints w A m c ys) (hnm : n + m ≤ 1000000000) (hB : B ≤ w.heap.size)
    (h : ∀ v' w', RowI w' B v' (n + m) (xs ++ ys) → w.grownBy w' v.ownBlock → wpList Try.prog ops Q rest (a.put o.dst v') w') : wpList Try.prog ops Q (o :: rest) a w := by
  obtain ⟨i0, hi, hz0, hz1, hz2⟩ := info_parts int_info
  cases A with
  | none =>
    have hc : c = 0 := hr.2.2.2.1 rfl
    have hm : m = 0 := by have := hr.1; omega
    subst hc hm
    have hy : ys = [] := List.eq_nil_of_length_eq_zero hr.length
    subst hy
    refine wpList_append_own_none hgd s x 33 ho B 3 i0 1 Try.underlying33 hi v n (cellsI xs) hs hown hx ?_
    exact h v w (by simpa using hown) (World.grownBy.refl w _)
  | some ad =>
    refine wpList_append_own w hgd s x 33 ho B 3 i0 (.int .i64 0) 1 8 Try.underlying33 hi hz0 hz1 hz2 rfl (by omega) v n (cellsI xs) hs hown ad m c (cellsI ys) hx (by simp [cellsI, hr.length]) ?_ (cellsI_one ys) (by unfold maxLen; omega) (by omega) hB ?_
    · intro j u hu
      have hj : j < m := by
        have := (List.getElem?_eq_some_iff.1 hu).1
        simpa [cellsI, hr.length] using this
      obtain ⟨b, off, e, _, hc⟩ := hr.at_ hj
      injection e with e
      subst e
      have ea : (⟨b, off, none⟩ : Addr).add j = ⟨b, off + j, none⟩ := by
        unfold Addr.add
        by_cases h0 : j = 0
        · subst h0; simp
        · simp [h0]
      rw [ea, hc, ← hu]
      simp [cellsI, List.getElem?_map, List.getD, List.getElem?_eq_getElem (show j < ys.length by rw [hr.length]; exact hj)]
    · intro v' w' h1 h2 _
      exact h v' w' (by rw [RowI, cellsI_append]; exact h1) h2

def putL (xs : List Int) (high id : Int) : List Int := if stackB xs high then (if stackB (xs ++ [id]) high then xs ++ [id] else xs) else []
def putOk (xs : List Int) (high id : Int) : Bool := stackB xs high && stackB (xs ++ [id]) high
def PutPost (w : World) (xs : List Int) (high id : Int) (e : Ending) (w' : World) : Prop :=
  ∃ A n c, e = .returned (.tuple #[.slice A n c, .bool (putOk xs high id)]) ∧ Own w' w.heap.size A n c (putL xs high id) ∧ Below w.heap.size w w'


theorem one_own (w : World) (id : Int) : OwnAt (w.alloc (.cells #[.int .i64 id] 3)) w.heap.size 1 1 [id] := by
  refine ⟨#[.int .i64 id], heap_alloc_new w _, rfl, Nat.le_refl _, by unfold maxLen; omega, rfl, fun j hj => ?_⟩
  have : j = 0 := by omega
  subst this
  rfl
theorem one_ints (w : World) (id : Int) : Ints (w.alloc (.cells #[.int .i64 id] 3)) (some ⟨w.heap.size, 0, none⟩) 1 1 [id] := (one_own w id).ints
theorem RowI.alloc {w : World} {B n : Nat} {v : Value} {xs : List Int} (h : RowI w B v n xs) (o : Obj) : RowI (w.alloc o) B v n xs := by
  obtain ⟨A, c, rfl, hw⟩ := h.own
  exact RowI.of_own (hw.below ((Below.refl _ _).alloc (Nat.le_refl _) _))

theorem RowI.less {w : World} {B B' n : Nat} {v : Value} {xs : List Int} (h : RowI w B v n xs) (hB : B' ≤ B) : RowI w B' v n xs := by
  obtain ⟨A, c, rfl, ho⟩ := h.own
  exact RowI.of_own (ho.less hB)
theorem Own.grown {w w' : World} {B n c : Nat} {A : Option Addr} {xs : List Int} (h : Own w B A n c xs) {v : Value} (hg : w.grownBy w' v.ownBlock) (hne : ∀ g, A = some ⟨g, 0, none⟩ → some g ≠ v.ownBlock) : Own w' B A n c xs := by
  rcases h with h | ⟨g, e, hg', ho⟩
  · exact .inl h
  · exact .inr ⟨g, e, hg', ho.keep (hg.block g ho.lt (hne g e))⟩
theorem RowI.block {w : World} {B n : Nat} {v : Value} {xs : List Int} (h : RowI w B v n xs) : v.ownBlock = none ∨ ∃ g, v.ownBlock = some g ∧ B ≤ g ∧ g < w.heap.size := by
  obtain ⟨A, c, rfl, hw⟩ := h.own
  rcases hw with ⟨rfl, rfl, rfl, rfl⟩ | ⟨g, rfl, hg, ho⟩
  · exact .inl rfl
  · exact .inr ⟨g, rfl, hg, ho.lt⟩
/-- what an append may change lies above B -/
theorem below_append {w w1 w2 : World} {B n : Nat} {v : Value} {xs : List Int} (hb : Below B w w1) (hr : RowI w1 B v n xs) (hg : w1.grownBy w2 v.ownBlock) (hB : B ≤ w1.heap.size) : Below B w w2 := by
  rcases hr.block with e | ⟨g, e, h1, h2⟩
  · rw [e] at hg
    exact hb.trans ⟨hg.os, hg.tape, hg.output, hg.size, fun k hk => hg.block k (by omega) (by simp)⟩
  · rw [e] at hg
    exact hb.trans ⟨hg.os, hg.tape, hg.output, hg.size, fun k hk => hg.block k (by omega) (fun e => by injection e with e; omega)⟩


def takeB (xs : List Int) (high : Int) : Bool := stackB xs high && decide (xs.length ≠ 0)
def takeL (xs : List Int) (high : Int) : List Int := if takeB xs high then xs.take (xs.length - 1) else []
def takeV (xs : List Int) (high : Int) : Int := if takeB xs high then xs.getD (xs.length - 1) 0 else -1
def TakePost (w : World) (xs : List Int) (high : Int) (e : Ending) (w' : World) : Prop :=
  ∃ A n c, e = .returned (.tuple #[.slice A n c, .int .i64 (takeV xs high)]) ∧ Own w' w.heap.size A n c (takeL xs high) ∧ Below w.heap.size w w'

end Go.Proofs.Yteghialkkhmggaa
