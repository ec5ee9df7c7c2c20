/- laws.markIntSS, laws.markYard: they write into the rows of their own yard alone. Conditions: the yard was made by the call. -/
import Derived.Test.YteghialkkhmggaaYard
import Derived.Test.YteghialkkhmggaaApp2
namespace Go.Proofs.Yteghialkkhmggaa
open Go.RowKit
set_option linter.unusedVariables false

/-- blocks below B and from T on are as they were -/
def Mid (B T : Nat) (w w' : World) : Prop := Below B w w' ∧ ∀ k, T ≤ k → k < w.heap.size → w'.heap[k]? = w.heap[k]?
theorem Mid.refl (B T : Nat) (w : World) : Mid B T w w := ⟨Below.refl _ _, fun _ _ _ => rfl⟩
theorem Mid.trans {B T : Nat} {a b c : World} (h : Mid B T a b) (h' : Mid B T b c) : Mid B T a c :=
  ⟨h.1.trans h'.1, fun k h1 h2 => (h'.2 k h1 (Nat.lt_of_lt_of_le h2 h.1.size)).trans (h.2 k h1 h2)⟩
theorem Mid.alloc {B T : Nat} (w : World) (hB : B ≤ w.heap.size) (o : Obj) : Mid B T w (w.alloc o) :=
  ⟨(Below.refl _ _).alloc hB o, fun k _ h2 => Below.heap_alloc w o k h2⟩
theorem Mid.grown {B T g : Nat} {w w' : World} (h : w.grownBy w' (some g)) (h1 : B ≤ g) (h2 : g < T) (hB : B ≤ w.heap.size) : Mid B T w w' :=
  ⟨⟨h.os, h.tape, h.output, h.size, fun i hi => h.block i (by omega) (fun e => by injection e with e; omega)⟩, fun k h3 h4 => h.block k h4 (fun e => by injection e with e; omega)⟩
theorem Own.mid {w w' : World} {B B' T n c : Nat} {A : Option Addr} {xs : List Int} (h : Own w B' A n c xs) (hm : Mid B T w w') (hne : ∀ g, A = some ⟨g, 0, none⟩ → g < B ∨ T ≤ g) : Own w' B' A n c xs := by
  rcases h with h | ⟨g, e, hg, ho⟩
  · exact .inl h
  · refine .inr ⟨g, e, hg, ho.keep ?_⟩
    rcases hne g e with h1 | h1
    · exact hm.1.block g h1
    · exact hm.2 g h1 ho.lt
theorem Yd.mid {w w' : World} {B T g : Nat} {hi : Int} {A : Option Addr} {n c : Nat} (h : Yd w g hi A n c) (hm : Mid B T w w') (hne : g < B ∨ T ≤ g) : Yd w' g hi A n c := by
  have hk : w'.heap[g]? = w.heap[g]? := by
    rcases hne with h1 | h1
    · exact hm.1.block g h1
    · exact hm.2 g h1 h.1
  exact ⟨Nat.lt_of_lt_of_le h.1 hm.1.size, (World.cell?_of_block (a := ⟨g, 0, none⟩) hk).trans h.2.1, (World.cell?_of_block (a := ⟨g, 1, none⟩) hk).trans h.2.2⟩
/-- block g is a row of n rows that lie between g and T -/
def RowsSS (w : World) (g n T : Nat) : Prop :=
  ∃ cs : Array Value, w.heap[g]? = some (.cells cs 33 (0, 0)) ∧ ∀ j, j < n → ∃ gj nj xs, cs[j]? = some (.slice (some ⟨gj, 0, none⟩) nj nj) ∧ g < gj ∧ gj < T ∧ nj ≤ 1048576 ∧ OwnAt w gj nj nj xs
theorem RowsSS.lt {w : World} {g n T : Nat} (h : RowsSS w g n T) : g < w.heap.size := by
  obtain ⟨cs, h, _⟩ := h
  exact heap_lt' h
theorem RowsSS.below {w w' : World} {g n T : Nat} (h : RowsSS w g n T) (hb : Below w.heap.size w w') : RowsSS w' g n T := by
  have hl := h.lt
  obtain ⟨cs, h1, h2⟩ := h
  refine ⟨cs, (hb.block g hl).trans h1, fun j hj => ?_⟩
  obtain ⟨gj, nj, xs, a, b, c, d, e⟩ := h2 j hj
  exact ⟨gj, nj, xs, a, b, c, d, e.below hb⟩
theorem RowsSS.of_made {w : World} {g n : Nat} {sss : List (List Int)} (h : MadeSS w g n n sss) (hs : ∀ j, j < n → (sss.getD j []).length ≤ 1048576) : RowsSS w g n w.heap.size := by
  obtain ⟨cs, h1, h2, h3, h4, h5⟩ := h
  refine ⟨cs, h1, fun j hj => ?_⟩
  obtain ⟨gj, nj, a, b, c⟩ := h4 j hj
  refine ⟨gj, nj, _, a, b, c.lt, ?_, c⟩
  have := c.length
  have := hs j hj
  omega
theorem RowsSS.at_ {w : World} {g n T : Nat} (h : RowsSS w g n T) {j : Nat} (hj : j < n) : ∃ gj nj xs, w.cell? ⟨g, j, none⟩ = some (.slice (some ⟨gj, 0, none⟩) nj nj) ∧ g < gj ∧ gj < T ∧ nj ≤ 1048576 ∧ OwnAt w gj nj nj xs := by
  obtain ⟨cs, h1, h2⟩ := h
  obtain ⟨gj, nj, xs, a, b⟩ := h2 j hj
  exact ⟨gj, nj, xs, by simp only [World.cell?, h1]; exact a, b⟩
theorem OwnAt.same {w : World} {g n m : Nat} {xs ys : List Int} (h : OwnAt w g n n xs) (h' : OwnAt w g m m ys) : n = m := by
  obtain ⟨cs, h1, h2, _⟩ := h
  obtain ⟨cs', h1', h2', _⟩ := h'
  rw [h1] at h1'
  injection h1' with e
  injection e with e
  subst e
  omega
theorem RowsSS.marked {w w' : World} {g n T k m : Nat} {xs ys : List Int} (h : RowsSS w g n T) (hg : w.grownBy w' (some k)) (hk : g < k) (ho : OwnAt w k m m xs) (ho' : OwnAt w' k m m ys) : RowsSS w' g n T := by
  have hl := h.lt
  obtain ⟨cs, h1, h2⟩ := h
  refine ⟨cs, (hg.block g hl (fun e => by injection e with e; omega)).trans h1, fun j hj => ?_⟩
  obtain ⟨gj, nj, zs, a, b, c, d, e⟩ := h2 j hj
  by_cases hgk : gj = k
  · subst hgk
    have := e.same ho
    subst this
    exact ⟨gj, nj, ys, a, b, c, d, ho'⟩
  · exact ⟨gj, nj, zs, a, b, c, d, e.grown hg hgk⟩

set_option maxHeartbeats 1600000 in
theorem markIntSS_any (g n B T : Nat) (w : World) (h : RowsSS w g n T) (hn : n ≤ 1048576) (hB : B ≤ g) :
    Calls Try.prog 51 #[.slice (some ⟨g, 0, none⟩) n n, .int .i64 1] w fun e w' => ∃ K : Int, e = .returned (.int .i64 K) ∧ 0 ≤ K ∧ Mid B T w w' := by
  have hlt := h.lt
  have H := Lib.hid h
  clear h
  go_enter Try.func51, Try.ntmps51
  go_wp2_with (fail)
  go_loopw [1, 5] (fun q i wr => ∃ (j : Nat) (v : Int), j ≤ n ∧ i = .int .i64 j ∧ q = .int .i64 v ∧ 0 ≤ v ∧ v ≤ 1 + 1048576 * (j : Int) ∧ RowsSS wr g n T ∧ Mid B T w wr) (fun _ i _ => n - (intOf i).toNat)
  case atStart => exact ⟨0, 1, by omega, rfl, rfl, by omega, by omega, H.out, Mid.refl _ _ _⟩
  case round =>
    obtain ⟨j, v, hj, rfl, rfl, hv0, hv1, ho, hmd⟩ := hrel
    by_cases hlt : j < n
    · have hlt' : (j : Int) < n := by omega
      have hj0 : (0 : Int) ≤ j := by omega
      obtain ⟨gj, nj, xs, hc, hg1, hg2, hnj, hoj⟩ := ho.at_ hlt
      have hBr : B ≤ wr.heap.size := by have := ho.lt; omega
      have Ho := Lib.hid ho
      have Hmd := Lib.hid hmd
      clear ho hmd
      go_wp2_with (go_at_call 23; refine (markIntS_any _ _ _ _ _ _ hoj hv0 (by omega) (by omega)).mono ?_; rintro e w1 ⟨rfl, ho1, hg1'⟩
                   have hm1 := Hmd.out.trans (Mid.grown hg1' (show B ≤ gj by omega) hg2 hBr)
                   have hr1 := Ho.out.marked hg1' hg1 hoj ho1)
      exact ⟨⟨j + 1, _, by omega, by go_num, rfl, by omega, by omega, hr1, hm1⟩, by simp [intOf]; omega⟩
    · obtain rfl : j = n := by omega
      go_wp2_with (fail)
      go_ret
      exact ⟨_, rfl, hv0, hmd⟩

set_option maxHeartbeats 800000 in
theorem markYard_any (g n B T : Nat) (hi : Int) (w : World) (h : RowsSS w g n T) (hn : n ≤ 1048576) (hB : B ≤ g) :
    Calls Try.prog 22 #[.agg #[.int .i64 hi, .slice (some ⟨g, 0, none⟩) n n], .int .i64 1] w fun e w' => ∃ K : Int, e = .returned (.int .i64 K) ∧ 0 ≤ K ∧ Mid B T w w' := by
  have hlt := h.lt
  have H := Lib.hid (h.below ((Below.refl _ _).alloc (Nat.le_refl _) (.cells #[.int .i64 hi, .slice (some ⟨g, 0, none⟩) n n] 27)))
  have hm := Mid.alloc (B := B) (T := T) w (by omega) (.cells #[.int .i64 hi, .slice (some ⟨g, 0, none⟩) n n] 27)
  clear h
  go_enter Try.func22, Try.ntmps22
  go_wp2_with (fail)
  refine (markIntSS_any g n B T _ H.out hn hB).mono ?_
  rintro e w1 ⟨K, rfl, hK, hm1⟩
  have hm2 := hm.trans hm1
  go_wp2_with (fail)
  go_ret
  exact ⟨_, rfl, hK, hm2⟩
end Go.Proofs.Yteghialkkhmggaa
