/- Rows of integers that a call makes itself: toIntS, eqIntS, markIntS, heldIntS. Conditions: the lengths are at most 1048576 where a row is made. -/
import Derived.Test.YteghialkkhmggaaInts
import Derived.Laws.MakeOwn
import Derived.Laws.OwnMore
namespace Go.Proofs.Yteghialkkhmggaa
open Go.RowKit
set_option linter.unusedVariables false

/-- block g is a row of c cells, the first n of which hold xs; it may be written -/
def OwnAt (w : World) (g n c : Nat) (xs : List Int) : Prop :=
  ∃ cs : Array Value, w.heap[g]? = some (.cells cs 3 (0, 0)) ∧ cs.size = c ∧ n ≤ c ∧ c ≤ maxLen ∧ xs.length = n ∧ ∀ j, j < n → cs[j]? = some (.int .i64 (xs.getD j 0))
/-- a slice in memory from block B on, or nil -/
def Own (w : World) (B : Nat) (A : Option Addr) (n c : Nat) (xs : List Int) : Prop :=
  (A = none ∧ n = 0 ∧ c = 0 ∧ xs = []) ∨ ∃ g, A = some ⟨g, 0, none⟩ ∧ B ≤ g ∧ OwnAt w g n c xs

theorem le_alloc {B : Nat} {w : World} (h : B ≤ w.heap.size) (o : Obj) : B ≤ (w.alloc o).heap.size := Nat.le_trans h ((Below.refl 0 w).alloc (Nat.zero_le _) o).size
theorem heap_lt' {w : World} {g : Nat} {o : Obj} (h : w.heap[g]? = some o) : g < w.heap.size := by
  rcases Nat.lt_or_ge g w.heap.size with hlt | hge
  · exact hlt
  · rw [Array.getElem?_eq_none hge] at h; cases h
theorem OwnAt.lt {w : World} {g n c : Nat} {xs : List Int} (h : OwnAt w g n c xs) : g < w.heap.size := by
  obtain ⟨cs, h, _⟩ := h
  exact heap_lt' h
theorem OwnAt.length {w : World} {g n c : Nat} {xs : List Int} (h : OwnAt w g n c xs) : xs.length = n := by
  obtain ⟨cs, _, _, _, _, h, _⟩ := h
  exact h
theorem OwnAt.keep {w w' : World} {g n c : Nat} {xs : List Int} (h : OwnAt w g n c xs) (hk : w'.heap[g]? = w.heap[g]?) : OwnAt w' g n c xs := by
  obtain ⟨cs, h1, h2⟩ := h
  exact ⟨cs, hk.trans h1, h2⟩
theorem OwnAt.below {w w' : World} {g n c : Nat} {xs : List Int} (h : OwnAt w g n c xs) (hb : Below w.heap.size w w') : OwnAt w' g n c xs := h.keep (hb.block g h.lt)
theorem OwnAt.cell {w : World} {g n c : Nat} {xs : List Int} (h : OwnAt w g n c xs) {k : Nat} (hk : k < n) : w.cell? ⟨g, k, none⟩ = some (.int .i64 (xs.getD k 0)) := by
  obtain ⟨cs, h1, h2, h3, h4, h5, h6⟩ := h
  simp only [World.cell?, h1]
  exact h6 k hk
theorem OwnAt.free {w : World} {g n c : Nat} {xs : List Int} (h : OwnAt w g n c xs) (k : Nat) : w.frozen? ⟨g, k, none⟩ = false := by
  obtain ⟨cs, h1, _⟩ := h
  simp [World.frozen?, h1]
theorem OwnAt.ints {w : World} {g n c : Nat} {xs : List Int} (h : OwnAt w g n c xs) : Ints w (some ⟨g, 0, none⟩) n c xs := by
  have hc := fun {k : Nat} (hk : k < n) => h.cell hk
  have hl := h.lt
  obtain ⟨cs, h1, h2, h3, h4, h5, h6⟩ := h
  exact ⟨h3, h4, h5, (fun e => by cases e), fun hn => ⟨g, 0, rfl, hl, fun j hj => by rw [Nat.zero_add]; exact hc hj⟩⟩
theorem OwnAt.set_ {w : World} {g n c : Nat} {xs : List Int} (h : OwnAt w g n c xs) (k : Nat) (v : Int) : OwnAt (w.setCell ⟨g, k, none⟩ (.int .i64 v)) g n c (xs.set k v) := by
  obtain ⟨cs, h1, h2, h3, h4, h5, h6⟩ := h
  refine ⟨cs.setIfInBounds k (.int .i64 v), by simp [World.setCell, Array.getElem?_modify, h1], by simp [h2], h3, h4, by simp [h5], fun j hj => ?_⟩
  rw [Array.getElem?_setIfInBounds]
  by_cases hkj : k = j
  · subst hkj
    rw [if_pos rfl, if_pos (by omega)]
    simp [List.getD, h5, hj]
  · rw [if_neg hkj, h6 j hj]
    simp [List.getD, hkj]
theorem OwnAt.far {w : World} {g n c : Nat} {xs : List Int} (h : OwnAt w g n c xs) {p : Addr} (hp : g ≠ p.block) (v : Value) : OwnAt (w.setCell p v) g n c xs := h.keep (Below.heap_setCell w p v g hp)
theorem OwnAt.grown {w w' : World} {g g' n c : Nat} {xs : List Int} (h : OwnAt w g n c xs) (hb : w.grownBy w' (some g')) (hne : g ≠ g') : OwnAt w' g n c xs := h.keep (hb.block g h.lt (fun e => hne (by injection e)))
theorem OwnAt.drewN {w : World} {g n c : Nat} {xs : List Int} (h : OwnAt w g n c xs) (k : Nat) : OwnAt (w.drewN k) g n c xs := h

theorem getD_ext {xs ys : List Int} (hl : xs.length = ys.length) (h : ∀ j, j < xs.length → xs.getD j 0 = ys.getD j 0) : xs = ys := by
  apply List.ext_getElem hl
  intro i h1 h2
  have := h i h1
  simpa [List.getD, List.getElem?_eq_getElem h1, List.getElem?_eq_getElem h2] using this

theorem int_info : (Try.prog.info? 3).map (fun i => (i.zero, i.size, i.bytes)) = some (some (.int .i64 0), 1, 8) := by kernel_rfl
def zeros (n : Nat) : Array Value := madeCells #[.int .i64 0] n
theorem zeros_own (w : World) (n : Nat) (hn : n ≤ maxLen) : OwnAt (w.alloc (.cells (zeros n) 3)) w.heap.size n n (List.replicate n 0) := by
  refine ⟨zeros n, heap_alloc_new w _, by simp [zeros, size_madeCells], Nat.le_refl _, hn, by simp, fun j hj => ?_⟩
  have e := toList_madeCells_one (.int .i64 0) n
  have : (zeros n).toList[j]? = (List.replicate n (Value.int .i64 0))[j]? := by rw [zeros, e]
  rw [← Array.getElem?_toList, this]
  simp [List.getD, hj]
theorem run_zeros (n : Nat) (hn : n ≤ 1048576) (W : World) :
    (Instr.makeSlice 33 (.int .i64 (n : Int)) (.int .i64 (n : Int))).run Try.prog W = .ok (.slice (some ⟨W.heap.size, 0, none⟩) n n) (W.alloc (.cells (zeros n) 3)) := by
  obtain ⟨i0, hi, hz0, hz1, hz2⟩ := info_parts int_info
  have := run_make (P := Try.prog) W 33 3 i0 _ Try.underlying33 hi hz0 .i64 .i64 (n : Int) (n : Int) (by omega) (by omega) (by rw [hz2]; omega) (by omega)
  simpa [zeros, hz1, Value.cells] using this

def ToPost (w : World) (xs : List Int) (e : Ending) (w' : World) : Prop :=
  ∃ (g n : Nat), e = .returned (.slice (some ⟨g, 0, none⟩) n n) ∧ w.heap.size ≤ g ∧ OwnAt w' g n n xs ∧ Below w.heap.size w w'

set_option maxHeartbeats 800000 in
theorem toIntS_any (A : Option Addr) (n c : Nat) (xs : List Int) (w : World) (h : Ints w A n c xs) (hn : n ≤ 1048576) :
    Calls Try.prog 26 #[.slice A n c] w (ToPost w xs) := by
  have hmk := run_zeros n hn
  have hn' : (n : Int) ≤ 1048576 := by omega
  have Hl := Lib.hid h.length
  have H := Lib.hid h
  clear h
  go_enter Try.func26, Try.ntmps26
  go_wp2_with (fail)
  have h0 := zeros_own w n (by unfold maxLen; omega)
  obtain ⟨g, hg⟩ : ∃ g, w.heap.size = g := ⟨_, rfl⟩
  obtain ⟨z0, hz0⟩ : ∃ z, List.replicate n (0 : Int) = z := ⟨_, rfl⟩
  have hB : Below w.heap.size w (w.alloc (.cells (zeros n) 3)) := (Below.refl _ _).alloc (Nat.le_refl _) _
  rw [hg, hz0] at h0
  have H0 := Lib.hid h0
  have HB := Lib.hid hB
  have Hg := Lib.hid hg
  clear h0 hz0 hmk hB
  rw [hg]
  generalize w.alloc (.cells (zeros n) 3) = w0 at *
  clear hg
  go_loopw [4] (fun i wr => ∃ (k : Nat) (ys : List Int), k ≤ n ∧ i = .int .i64 k ∧ OwnAt wr g n n ys ∧ (∀ j, j < k → ys.getD j 0 = xs.getD j 0) ∧ Below w.heap.size w wr) (fun i _ => n - (intOf i).toNat)
  case atStart => exact ⟨0, _, by omega, rfl, H0.out, (fun j hj => absurd hj (by omega)), HB.out⟩
  case round =>
    obtain ⟨k, ys, hk, rfl, ho, hp, hbw⟩ := hrel
    by_cases hlt : k < n
    · have hlt' : (k : Int) < n := by omega
      have hkc : (k : Int) < c := by have := H.out.1; omega
      obtain ⟨b, off, hA, hb, hc0⟩ := H.out.at_ hlt
      subst hA
      have hc := (hbw.cell (p := ⟨b, off + k, none⟩) hb).trans hc0
      have hbg : ¬ b = g := by have := Hg.out; omega
      obtain ⟨v, hv⟩ : ∃ v, xs.getD k 0 = v := ⟨_, rfl⟩
      rw [hv] at hc
      have hgc := ho.cell hlt
      have hgf := ho.free k
      have hn1 := ho.set_ k v
      have hn2 : ∀ j, j < k + 1 → (ys.set k v).getD j 0 = xs.getD j 0 := by
        intro j hj
        by_cases hjk : j = k
        · subst hjk
          have hl := ho.length
          rw [hv]
          simp [List.getD, hl, hlt]
        · have := hp j (by omega)
          rw [← this]
          have hkj : ¬ k = j := fun e => hjk e.symm
          simp [List.getD, hkj]
      have hn3 := hbw.setCell (p := ⟨g, k, none⟩) (by have := Hg.out; simp; omega) (.int .i64 v)
      obtain ⟨u, hu⟩ : ∃ u, ys.getD k 0 = u := ⟨_, rfl⟩
      rw [hu] at hgc
      have Hn1 := Lib.hid hn1
      have Hn2 := Lib.hid hn2
      have Hn3 := Lib.hid hn3
      clear hn1 hn2 hn3 ho hp hbw hv hu hc0 hb
      go_wp2_with (fail)
      exact ⟨⟨k + 1, _, by omega, by go_num, Hn1.out, Hn2.out, Hn3.out⟩, by simp [intOf]; omega⟩
    · obtain rfl : k = n := by omega
      have hfin : ys = xs := getD_ext (by rw [ho.length, Hl.out]) (fun j hj => hp j (by rw [ho.length] at hj; exact hj))
      subst hfin
      have Ho := Lib.hid ho
      have Hb := Lib.hid hbw
      clear ho hp hbw
      go_wp2_with (fail)
      go_ret
      exact ⟨g, k, rfl, by rw [Hg.out]; exact Nat.le_refl _, Ho.out, Hb.out⟩
end Go.Proofs.Yteghialkkhmggaa
