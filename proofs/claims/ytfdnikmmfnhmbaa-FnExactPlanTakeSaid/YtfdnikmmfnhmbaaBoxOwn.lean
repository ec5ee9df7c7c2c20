/- Rows of boxes that a call makes itself: toBoxS, eqBoxS, szBoxS. Conditions: the lengths are at most 1048576 where a row is made. -/
import Derived.Test.YtfdnikmmfnhmbaaBoxS
import Derived.Test.YtfdnikmmfnhmbaaOwn2
import Derived.Deep.MidRow
namespace Go.Proofs.Ytfdnikmmfnhmbaa
open Go.RowKit
set_option linter.unusedVariables false

def Bx.cells (y : Bx) : List Value := [.int .i64 y.id, .int .i64 y.wt, .int .i64 y.cl, .int .i64 y.po, .bool y.co]
theorem boxAt_iff {w : World} {b o : Nat} {y : Bx} : BoxAt w b o y ↔ w.rangeAt b o y.cells := by
  constructor
  · rintro ⟨h0, h1, h2, h3, h4⟩ j v hv
    rcases j with _ | _ | _ | _ | _ | j
    · cases hv; exact h0
    · cases hv; exact h1
    · cases hv; exact h2
    · cases hv; exact h3
    · cases hv; exact h4
    · simp [Bx.cells] at hv
  · intro h
    exact ⟨h 0 _ rfl, h 1 _ rfl, h 2 _ rfl, h 3 _ rfl, h 4 _ rfl⟩

/-- block g is a row of n boxes that may be written -/
def MadeB (w : World) (g n : Nat) (bs : List Bx) : Prop :=
  g < w.heap.size ∧ bs.length = n ∧ n ≤ maxLen ∧ (∀ j, j < n → BoxAt w g (j * 5) (bs.getD j default)) ∧ ∀ o, w.frozen? ⟨g, o, none⟩ = false

theorem MadeB.boxes {w : World} {g n : Nat} {bs : List Bx} (h : MadeB w g n bs) : IsBoxes w (some ⟨g, 0, none⟩) n n bs := by
  obtain ⟨h1, h2, h3, h4, h5⟩ := h
  exact ⟨Nat.le_refl _, h3, h2, (fun e => by cases e), fun hn => ⟨g, 0, rfl, h1, fun j hj => by rw [Nat.zero_add]; exact h4 j hj⟩⟩
theorem MadeB.there {w : World} {g n : Nat} {bs : List Bx} (h : MadeB w g n bs) {k : Nat} (hk : k < n) : w.there g (k * 5) 5 := by
  obtain ⟨h1, h2, h3, h4, h5⟩ := h
  intro j hj
  exact ⟨(boxAt_iff.1 (h4 k hk)).isSome j hj, h5 _⟩
theorem MadeB.below {w w' : World} {g n : Nat} {bs : List Bx} (h : MadeB w g n bs) (hb : Below w.heap.size w w') : MadeB w' g n bs := by
  obtain ⟨h1, h2, h3, h4, h5⟩ := h
  refine ⟨Nat.lt_of_lt_of_le h1 hb.size, h2, h3, fun j hj => ?_, fun o => (World.frozen?_of_block (hb.block g h1)).trans (h5 o)⟩
  obtain ⟨c0, c1, c2, c3, c4⟩ := h4 j hj
  exact ⟨(hb.cell (p := ⟨g, _, none⟩) h1).trans c0, (hb.cell (p := ⟨g, _, none⟩) h1).trans c1, (hb.cell (p := ⟨g, _, none⟩) h1).trans c2, (hb.cell (p := ⟨g, _, none⟩) h1).trans c3, (hb.cell (p := ⟨g, _, none⟩) h1).trans c4⟩
theorem MadeB.set_ {w : World} {g n : Nat} {bs : List Bx} (h : MadeB w g n bs) {k : Nat} (hk : k < n) (y : Bx) : MadeB (w.setCells g (k * 5) y.cells) g n (bs.set k y) := by
  have ht := h.there hk
  obtain ⟨h1, h2, h3, h4, h5⟩ := h
  refine ⟨by simpa [Bx.cells, World.setCells] using h1, by simp [h2], h3, fun j hj => ?_, fun o => by rw [World.frozen?_setCells]; exact h5 o⟩
  by_cases hjk : k = j
  · subst hjk
    have := World.rangeAt_setCells_same w g (k * 5) y.cells ht
    simpa [List.getD, h2, hk] using boxAt_iff.2 this
  · have := World.rangeAt_setCells_apart (boxAt_iff.1 (h4 j hj)) g (k * 5) y.cells (by simp [Bx.cells]; omega)
    simpa [List.getD, hjk] using boxAt_iff.2 this

theorem getB_ext {xs ys : List Bx} (hl : xs.length = ys.length) (h : ∀ j, j < xs.length → xs.getD j default = ys.getD j default) : xs = ys := by
  apply List.ext_getElem hl
  intro i h1 h2
  have := h i h1
  simpa [List.getD, List.getElem?_eq_getElem h1, List.getElem?_eq_getElem h2] using this

def zb : Bx := ⟨0, 0, 0, 0, false⟩
theorem box_info : (Try.prog.info? 56).map (fun i => (i.zero, i.size, i.bytes)) = some (some (.agg #[.int .i64 0, .int .i64 0, .int .i64 0, .int .i64 0, .bool false]), 5, 40) := by kernel_rfl
def zerosB (n : Nat) : Array Value := madeCells #[.int .i64 0, .int .i64 0, .int .i64 0, .int .i64 0, .bool false] (n * 5)
theorem zerosB_at (n j i : Nat) (hj : j < n) (hi : i < 5) (v : Value) (hv : zb.cells[i]? = some v) : (zerosB n)[j * 5 + i]? = some v := by
  have e : (j * 5 + i) % 5 = i := by omega
  have hlt : j * 5 + i < n * 5 := by omega
  have : (zerosB n)[j * 5 + i]? = some ((#[Value.int .i64 0, .int .i64 0, .int .i64 0, .int .i64 0, .bool false] : Array Value)[(j * 5 + i) % 5]!) := by
    simp [zerosB, madeCells, hlt]
  rw [this, e, ← hv]
  rcases i with _ | _ | _ | _ | _ | i
  · rfl
  · rfl
  · rfl
  · rfl
  · rfl
  · omega
theorem zerosB_made (w : World) (n : Nat) (hn : n ≤ maxLen) : MadeB (w.alloc (.cells (zerosB n) 56)) w.heap.size n (List.replicate n zb) := by
  have hh := heap_alloc_new w (.cells (zerosB n) 56)
  refine ⟨by simp, by simp, hn, fun j hj => ?_, fun o => by simp only [World.frozen?, hh]; rfl⟩
  rw [boxAt_iff]
  intro i v hv
  have hi : i < 5 := by
    have := (List.getElem?_eq_some_iff.1 hv).1
    simp [List.getD, hj, Bx.cells] at this
    exact this
  simp only [World.cell?, hh]
  refine zerosB_at n j i hj hi v ?_
  simpa [List.getD, hj] using hv
theorem run_zerosB (n : Nat) (hn : n ≤ 1048576) (W : World) :
    (Instr.makeSlice 34 (.int .i64 (n : Int)) (.int .i64 (n : Int))).run Try.prog W = .ok (.slice (some ⟨W.heap.size, 0, none⟩) n n) (W.alloc (.cells (zerosB n) 56)) := by
  obtain ⟨i0, hi, hz0, hz1, hz2⟩ := info_parts box_info
  have := run_make (P := Try.prog) W 34 56 i0 _ Try.underlying34 hi hz0 .i64 .i64 (n : Int) (n : Int) (by omega) (by omega) (by rw [hz2]; omega) (by omega)
  simpa [zerosB, hz1, Value.cells] using this

theorem below_setCells {a w : World} {B b : Nat} (hb : Below B a w) (hB : B ≤ b) (o : Nat) (y : Bx) : Below B a (w.setCells b o y.cells) := by
  simp only [Bx.cells, World.setCells]
  refine Below.setCell (Below.setCell (Below.setCell (Below.setCell (Below.setCell hb ?_ _) ?_ _) ?_ _) ?_ _) ?_ _ <;> exact hB

def ToBPost (w : World) (bs : List Bx) (e : Ending) (w' : World) : Prop :=
  ∃ (g n : Nat), e = .returned (.slice (some ⟨g, 0, none⟩) n n) ∧ w.heap.size ≤ g ∧ MadeB w' g n bs ∧ Below w.heap.size w w'

set_option maxHeartbeats 800000 in
theorem toBoxS_any (A : Option Addr) (n c : Nat) (xs : List Bx) (w : World) (h : IsBoxes w A n c xs) (hn : n ≤ 1048576) :
    Calls Try.prog 18 #[.slice A n c] w (ToBPost w xs) := by
  have hmk := run_zerosB n hn
  have hn' : (n : Int) ≤ 1048576 := by omega
  have Hl := Lib.hid h.length
  have H := Lib.hid h
  clear h
  go_enter Try.func18, Try.ntmps18
  go_wp2_with (fail)
  have h0 := zerosB_made w n (by unfold maxLen; omega)
  obtain ⟨g, hg⟩ : ∃ g, w.heap.size = g := ⟨_, rfl⟩
  obtain ⟨z0, hz0⟩ : ∃ z, List.replicate n zb = z := ⟨_, rfl⟩
  have hB : Below w.heap.size w (w.alloc (.cells (zerosB n) 56)) := (Below.refl _ _).alloc (Nat.le_refl _) _
  rw [hg, hz0] at h0
  have H0 := Lib.hid h0
  have HB := Lib.hid hB
  have Hg := Lib.hid hg
  clear h0 hz0 hmk hB
  rw [hg]
  generalize w.alloc (.cells (zerosB n) 56) = w0 at *
  clear hg
  go_loopw [4] (fun i wr => ∃ (k : Nat) (ys : List Bx), k ≤ n ∧ i = .int .i64 k ∧ MadeB wr g n ys ∧ (∀ j, j < k → ys.getD j default = xs.getD j default) ∧ Below w.heap.size w wr) (fun i _ => n - (intOf i).toNat)
  case atStart => exact ⟨0, _, by omega, rfl, H0.out, (fun j hj => absurd hj (by omega)), HB.out⟩
  case round =>
    obtain ⟨k, ys, hk, rfl, ho, hp, hbw⟩ := hrel
    by_cases hlt : k < n
    · have hlt' : (k : Int) < n := by omega
      have hkc : (k : Int) < c := by have := H.out.1; omega
      obtain ⟨b, off, hA, hb, hc0⟩ := H.out.at_ hlt
      subst hA
      obtain ⟨e0, e1, e2, e3, e4⟩ := hc0
      have d0 := (hbw.cell (p := ⟨b, off + k * 5, none⟩) hb).trans e0
      have d1 := (hbw.cell (p := ⟨b, off + k * 5 + 1, none⟩) hb).trans e1
      have d2 := (hbw.cell (p := ⟨b, off + k * 5 + 2, none⟩) hb).trans e2
      have d3 := (hbw.cell (p := ⟨b, off + k * 5 + 3, none⟩) hb).trans e3
      have d4 := (hbw.cell (p := ⟨b, off + k * 5 + 4, none⟩) hb).trans e4
      have hbg : ¬ b = g := by have := Hg.out; omega
      have hsw := hbw.size
      obtain ⟨v, hv⟩ : ∃ v, xs.getD k default = v := ⟨_, rfl⟩
      rw [hv] at d0 d1 d2 d3 d4
      have Ho := Lib.hid ho
      have Hp := Lib.hid hp
      have Hv := Lib.hid hv
      clear ho hp hv e0 e1 e2 e3 e4 hb
      go_wp2_with (first
        | (go_at_call 43; refine (toBox_any _ _ _ _ _ _).mono ?_; rintro e w1 ⟨rfl, hb1⟩
           have hb2 := hbw.trans (hb1.mono hsw)
           have ho1 := Ho.out.below hb1
           obtain ⟨q0, q1, q2, q3, q4⟩ := ho1.2.2.2.1 k hlt
           have p0 := ho1.2.2.2.2 (k * 5)
           have p1 := ho1.2.2.2.2 (k * 5 + 1)
           have p2 := ho1.2.2.2.2 (k * 5 + 2)
           have p3 := ho1.2.2.2.2 (k * 5 + 3)
           have p4 := ho1.2.2.2.2 (k * 5 + 4)
           generalize ys.getD k default = z at q0 q1 q2 q3 q4
           have Ho1 := Lib.hid ho1
           clear ho1))
      refine ⟨⟨k + 1, ys.set k v, by omega, by go_num, Ho1.out.set_ hlt v, ?_, below_setCells hb2 (by have := Hg.out; omega) _ v⟩, by simp [intOf]; omega⟩
      intro j hj
      by_cases hjk : j = k
      · subst hjk
        have hl := Ho.out.2.1
        rw [Hv.out]
        simp [List.getD, hl, hlt]
      · have := Hp.out j (by omega)
        rw [← this]
        have hkj : ¬ k = j := fun e => hjk e.symm
        simp [List.getD, hkj]
    · obtain rfl : k = n := by omega
      have hfin : ys = xs := getB_ext (by rw [ho.2.1, Hl.out]) (fun j hj => hp j (by rw [ho.2.1] at hj; exact hj))
      subst hfin
      have Ho := Lib.hid ho
      have Hb := Lib.hid hbw
      clear ho hp hbw
      go_wp2_with (fail)
      go_ret
      exact ⟨g, k, rfl, by rw [Hg.out]; exact Nat.le_refl _, Ho.out, Hb.out⟩
set_option maxHeartbeats 400000 in
theorem eqBox_same (id wt cl po : Int) (co : Bool) (w : World) :
    Calls Try.prog 48 #[.agg #[.int .i64 id, .int .i64 wt, .int .i64 cl, .int .i64 po, .bool co], .agg #[.int .i64 id, .int .i64 wt, .int .i64 cl, .int .i64 po, .bool co]] w fun e w' => e = .returned (.bool true) ∧ Below w.heap.size w w' := by
  go_enter Try.func48, Try.ntmps48
  go_wp2
  all_goals go_ret
  all_goals exact ⟨rfl, (by repeat' (first | with_reducible exact Below.refl _ _ | with_reducible assumption | with_reducible refine bel_step (by with_reducible assumption) ?_ ?_ | with_reducible refine Below.drew ?_ | with_reducible refine below_drewN ?_ _ | with_reducible refine Below.alloc ?_ ?_ _ | with_reducible refine Below.setCell ?_ ?_ _ | (simp; done) | (simp; omega) | omega | with_reducible refine below_le (by with_reducible assumption) ?_))⟩

set_option maxHeartbeats 1600000 in
theorem eqBoxS_same (A : Option Addr) (n c : Nat) (xs : List Bx) (A' : Option Addr) (c' : Nat) (w : World) (h : IsBoxes w A n c xs) (h' : IsBoxes w A' n c' xs) :
    Calls Try.prog 21 #[.slice A n c, .slice A' n c'] w fun e w' => e = .returned (.bool true) ∧ Below w.heap.size w w' := by
  have hlen := h.len
  have Hl := Lib.hid h.length
  have H := Lib.hid h
  have H' := Lib.hid h'
  clear h h'
  go_enter Try.func21, Try.ntmps21
  go_wp2_with (fail)
  go_loopw [5] (fun i wr => ∃ k : Nat, k ≤ n ∧ i = .int .i64 k ∧ Below w.heap.size w wr) (fun i _ => n - (intOf i).toNat)
  case atStart => exact ⟨0, by omega, rfl, Below.refl _ _⟩
  case round =>
    obtain ⟨k, hk, rfl, hbw⟩ := hrel
    have hsw := hbw.size
    by_cases hlt : k < n
    · have hlt' : (k : Int) < n := by omega
      have hk0 : (0 : Int) ≤ k := by omega
      obtain ⟨b, off, hA, hb, hc⟩ := H.out.at_ hlt
      obtain ⟨b', off', hA', hb', hc'⟩ := H'.out.at_ hlt
      subst hA hA'
      obtain ⟨e0, e1, e2, e3, e4⟩ := hc
      obtain ⟨f0, f1, f2, f3, f4⟩ := hc'
      have d0 := (hbw.cell (p := ⟨b, off + k * 5, none⟩) hb).trans e0
      have d1 := (hbw.cell (p := ⟨b, off + k * 5 + 1, none⟩) hb).trans e1
      have d2 := (hbw.cell (p := ⟨b, off + k * 5 + 2, none⟩) hb).trans e2
      have d3 := (hbw.cell (p := ⟨b, off + k * 5 + 3, none⟩) hb).trans e3
      have d4 := (hbw.cell (p := ⟨b, off + k * 5 + 4, none⟩) hb).trans e4
      have g0 := (hbw.cell (p := ⟨b', off' + k * 5, none⟩) hb').trans f0
      have g1 := (hbw.cell (p := ⟨b', off' + k * 5 + 1, none⟩) hb').trans f1
      have g2 := (hbw.cell (p := ⟨b', off' + k * 5 + 2, none⟩) hb').trans f2
      have g3 := (hbw.cell (p := ⟨b', off' + k * 5 + 3, none⟩) hb').trans f3
      have g4 := (hbw.cell (p := ⟨b', off' + k * 5 + 4, none⟩) hb').trans f4
      obtain ⟨y, hy⟩ : ∃ y, xs.getD k default = y := ⟨_, rfl⟩
      rw [hy] at d0 d1 d2 d3 d4 g0 g1 g2 g3 g4
      clear hy e0 e1 e2 e3 e4 f0 f1 f2 f3 f4
      go_wp2_with (fail)
      go_region_with (go_at_call 48; refine (eqBox_same _ _ _ _ _ _).mono ?_; rintro e w1 ⟨rfl, hb1⟩; have hb2 := (hbw.drew).trans (hb1.mono hsw))
      all_goals go_wp2_with (fail)
      all_goals exact ⟨⟨k + 1, by omega, by go_num, hb2⟩, by simp [intOf]; omega⟩
    · obtain rfl : k = n := by omega
      go_wp2_with (fail)
      go_ret
      exact ⟨rfl, hbw⟩
set_option maxHeartbeats 400000 in
theorem szBoxS_any (A : Option Addr) (n c : Nat) (left : Int) (w : World) (h0 : 0 ≤ left) (h1 : left ≤ 1048576) (hn : (n : Int) ≤ 9223372036854775807) :
    Calls Try.prog 16 #[.slice A n c, .int .i64 left] w fun e w' => e = .returned (.int .i64 (if left - n < 0 then -1 else left - n)) ∧ Below w.heap.size w w' := by
  have hw : IntKind.i64.wrap (left - n) = left - n := IntWalk.i64_in _ (by omega)
  by_cases hlt : left - n < 0
  · rw [if_pos hlt]
    go_enter Try.func16, Try.ntmps16
    go_wp2
    all_goals go_ret
    all_goals exact ⟨rfl, (by repeat' (first | with_reducible exact Below.refl _ _ | with_reducible assumption | with_reducible refine bel_step (by with_reducible assumption) ?_ ?_ | with_reducible refine Below.drew ?_ | with_reducible refine below_drewN ?_ _ | with_reducible refine Below.alloc ?_ ?_ _ | with_reducible refine Below.setCell ?_ ?_ _ | (simp; done) | (simp; omega) | omega | with_reducible refine below_le (by with_reducible assumption) ?_))⟩
  · rw [if_neg hlt]
    go_enter Try.func16, Try.ntmps16
    go_wp2
    all_goals go_ret
    all_goals exact ⟨rfl, (by repeat' (first | with_reducible exact Below.refl _ _ | with_reducible assumption | with_reducible refine bel_step (by with_reducible assumption) ?_ ?_ | with_reducible refine Below.drew ?_ | with_reducible refine below_drewN ?_ _ | with_reducible refine Below.alloc ?_ ?_ _ | with_reducible refine Below.setCell ?_ ?_ _ | (simp; done) | (simp; omega) | omega | with_reducible refine below_le (by with_reducible assumption) ?_))⟩
end Go.Proofs.Ytfdnikmmfnhmbaa
