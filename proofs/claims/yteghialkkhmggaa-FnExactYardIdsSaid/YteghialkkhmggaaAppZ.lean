/- append(s, make([]int, m)...) at a row of the call's own. Conditions: those in each statement. -/
import Derived.Test.YteghialkkhmggaaApp2
import Derived.Lib.AppendZerosOnto
namespace Go.Proofs.Yteghialkkhmggaa
open Go.RowKit
set_option linter.unusedVariables false

theorem zero_list (m : Nat) : (Builtin.zeroCells #[.int .i64 0] m).toList = List.replicate m (Value.int .i64 0) := by
  unfold Builtin.zeroCells
  apply List.ext_getElem
  · simp
  · intro i h1 h2
    simp [Nat.mod_one]
theorem cellsI_zeros (m : Nat) : cellsI (List.replicate m 0) = List.replicate m (Value.int .i64 0) := by simp [cellsI]

theorem run_append_zeros (w : World) (B : Nat) (v : Value) (n m : Nat) (xs : List Int) (ty : TypeId) (hown : RowI w B v n xs) (hm0 : 0 < m) (hm : m ≤ 1000) (hn : n ≤ 1000) (hB : B ≤ w.heap.size) :
    ∃ v' w', (Builtin.append_ #[33, 3] ty #[v, .int .i64 (m : Int)]).run Try.prog w = .ok v' w' ∧ RowI w' B v' (n + m) (xs ++ List.replicate m 0) ∧ w.grownBy w' v.ownBlock := by
  obtain ⟨i0, hi, hz0, hz1, hz2⟩ := info_parts int_info
  have new : ∀ (old : Nat) (row : Option Nat), old < n + m → RowI (w.drew.alloc (.cells ((cellsI xs).toArray ++ Builtin.zeroCells #[.int .i64 0] m ++ Builtin.zeroCells #[.int .i64 0] (grownCap w (n + m) old 3 - (n + m))) 3)) B (.slice (some ⟨w.heap.size, 0, none⟩) (n + m) (grownCap w (n + m) old 3)) (n + m) (xs ++ List.replicate m 0) ∧
      w.grownBy (w.drew.alloc (.cells ((cellsI xs).toArray ++ Builtin.zeroCells #[.int .i64 0] m ++ Builtin.zeroCells #[.int .i64 0] (grownCap w (n + m) old 3 - (n + m))) 3)) row := by
    intro old row ho
    have hge := grownCap_ge w (n + m) old 3
    have hcm : grownCap w (n + m) old 3 ≤ maxLen := grownCap_le_maxLen w (n + m) old 3 (by unfold maxLen; omega)
    have hl : xs.length = n := by simpa [cellsI] using hown.1
    refine ⟨⟨by simp [cellsI, hl], .inr ⟨w.heap.size, _, _, rfl, hB, heap_alloc_new w.drew _, hge, hcm, ?_, ?_⟩⟩, ⟨rfl, rfl, rfl, by simp, fun k hk _ => (Below.heap_alloc w.drew _ k hk)⟩⟩
    · simp only [Array.size_append, List.size_toArray, size_zeroCells, cellsI, List.length_map, hl]
      simp; omega
    · simp only [Array.toList_append, List.append_assoc, zero_list, cellsI_append, cellsI_zeros]
      rw [← List.append_assoc, List.take_left' (by simp [cellsI, hl])]
  rcases hown.2 with ⟨rfl, rfl⟩ | ⟨g, cap, cur, rfl, hbg, hg, hnc, hcm, hcs, htake⟩
  · have hx : xs = [] := by have := hown.1; simp [cellsI] at this; exact this
    subst hx
    have hr := Lib.run_append_nil_zeros (P := Try.prog) w 33 3 ty 3 i0 (.int .i64 0) .i64 .i64 Try.underlying33 Try.underlying3 hi hz0 m hm0 (by rw [hz1]; omega) (by omega) (by rw [hz2]; omega)
    obtain ⟨h1, h2⟩ := new 0 none (by omega)
    simp only [Nat.zero_add, List.nil_append, cellsI, List.map_nil] at h1 h2 ⊢
    exact ⟨_, _, hr, by simpa [Value.cells] using h1, by simpa [Value.ownBlock, Value.cells] using h2⟩
  · have hl : xs.length = n := by simpa [cellsI] using hown.1
    have hmw : IntKind.i64.wrap (m : Int) = m := IntWalk.i64_in _ (by omega)
    have hneg : ¬ ((m : Int) < 0) := by omega
    have hbig : ¬ (281474976710656 < (m : Int) * 8) := by omega
    have hm1 : ¬ m = 0 := by omega
    by_cases hroom : n + m ≤ cap
    · have hfit : n + 0 + (List.replicate m (Value.int .i64 0)).length ≤ cur.size := by simp; omega
      have hst := run_storeCells_at Try.prog g n 3 (List.replicate m (Value.int .i64 0)) 0 cur w hg hfit (by intro u hu; rw [List.eq_of_mem_replicate hu]; rfl)
      simp only [Nat.add_zero] at hst
      have hr : (Builtin.append_ #[33, 3] ty #[.slice (some ⟨g, 0, none⟩) n cap, .int .i64 (m : Int)]).run Try.prog w = .ok (.slice (some ⟨g, 0, none⟩) (n + m) cap) (w.setRow g (cur.toList.take n ++ List.replicate m (Value.int .i64 0) ++ cur.toList.drop (n + (List.replicate m (Value.int .i64 0)).length)).toArray) := by
        have hz : (Builtin.zeroCells (Value.int .i64 0).cells m).toList = List.replicate m (Value.int .i64 0) := zero_list m
        simp [Builtin.append_, run_underlying Try.underlying33, run_underlying Try.underlying3, sizeOf, typeInfo, zeroValue, hi, hz0, hz1, hz2, asInt, asIntOf, hmw, hneg, hbig, hm1, hroom, Addr.add_lit, hz]
        rw [hst]
        simp [Result.andThen]
      refine ⟨_, _, hr, ⟨by simp [cellsI, hl], .inr ⟨g, cap, _, rfl, hbg, setRow_heap w g cur _ 3 _ hg, hroom, hcm, ?_, ?_⟩⟩, ⟨rfl, rfl, rfl, by simp, fun k _ hk => setRow_other w g k _ (fun e => hk (by simp [Value.ownBlock, e]))⟩⟩
      · simp only [List.size_toArray, List.length_append, List.length_take, List.length_drop, Array.length_toList, List.length_replicate]
        omega
      · rw [cellsI_append, cellsI_zeros, ← htake]
        simp only [Nat.mul_one]
        rw [List.take_left' (by simp [hcs]; omega)]
    · have holds : ∀ j u, (cellsI xs)[j]? = some u → w.drew.cell? ((⟨g, 0, none⟩ : Addr).add j) = some u := World.ownsRow.cells (w := w) hown (g := g) rfl
      have hold := run_firstCells_some (P := Try.prog) (w := w.drew) i0.size n ⟨g, 0, none⟩ n cap (cellsI xs) (by rw [hz1]; simp [cellsI, hl]) holds
      have hr := Lib.run_append_grow_zeros (P := Try.prog) w 33 3 ty 3 i0 (.int .i64 0) .i64 .i64 Try.underlying33 Try.underlying3 hi hz0 (some ⟨g, 0, none⟩) n cap (cellsI xs) hold m hm0 (by rw [hz1]; omega) (by omega) (by omega) (by rw [hz2]; omega) (by rw [hz2]; exact Nat.le_trans (growslice_fits (by omega) (by omega)) (Nat.le_refl _))
      obtain ⟨h1, h2⟩ := new cap (Value.slice (some ⟨g, 0, none⟩) n cap).ownBlock (by omega)
      exact ⟨_, _, hr, h1, h2⟩

theorem wpList_append_zeros {w : World} {ops : Array Oper} {rest : List Oper} {o : Oper} {a : Act} {Q : Exit → Act → World → Prop} (hgd : o.guard = none) (s x : Operand)
    (ho : o.op = .call { callee := .builtin .append, args := #[s, x], argTypes := #[33, 3] })
    (B : Nat) (v : Value) (n : Nat) (xs : List Int) (hs : a.eval s = v) (hown : RowI w B v n xs)
    (m : Nat) (hx : a.eval x = .int .i64 (m : Int)) (hm0 : 0 < m) (hm : m ≤ 1000) (hn : n ≤ 1000) (hB : B ≤ w.heap.size)
    (h : ∀ v' w', RowI w' B v' (n + m) (xs ++ List.replicate m 0) → w.grownBy w' v.ownBlock → wpList Try.prog ops Q rest (a.put o.dst v') w') : wpList Try.prog ops Q (o :: rest) a w := by
  obtain ⟨v', w', hr, h1, h2⟩ := run_append_zeros w B v n m xs o.type hown hm0 hm hn hB
  exact Lib.wpList_append_run w hgd s x _ _ ho v _ hs hx v' w' hr (h v' w' h1 h2)
end Go.Proofs.Yteghialkkhmggaa
