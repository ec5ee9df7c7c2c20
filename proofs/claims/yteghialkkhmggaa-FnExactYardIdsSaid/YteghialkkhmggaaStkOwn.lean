/- toIntSS, eqIntSS, szIntSS, and the yard's own: toYard, eqYard, szYard. Conditions: the lengths are at most 1048576 where rows are made. -/
import Derived.Test.YteghialkkhmggaaStk
namespace Go.Proofs.Yteghialkkhmggaa
open Go.RowKit
set_option linter.unusedVariables false

/-- block g is a row of n slices, the first k of which are rows made behind it that hold the first k lists -/
def MadeSS (w : World) (g n k : Nat) (sss : List (List Int)) : Prop :=
  ∃ cs : Array Value, w.heap[g]? = some (.cells cs 33 (0, 0)) ∧ cs.size = n ∧ n ≤ maxLen ∧ (∀ j, j < k → ∃ gj nj, cs[j]? = some (.slice (some ⟨gj, 0, none⟩) nj nj) ∧ g < gj ∧ OwnAt w gj nj nj (sss.getD j [])) ∧ ∀ j, j < n → ∃ Aj nj cj, cs[j]? = some (.slice Aj nj cj)
theorem MadeSS.lt {w : World} {g n k : Nat} {sss : List (List Int)} (h : MadeSS w g n k sss) : g < w.heap.size := by
  obtain ⟨cs, h, _⟩ := h
  exact heap_lt' h
theorem MadeSS.below {w w' : World} {g n k : Nat} {sss : List (List Int)} (h : MadeSS w g n k sss) (hb : Below w.heap.size w w') : MadeSS w' g n k sss := by
  have hl := h.lt
  obtain ⟨cs, h1, h2, h3, h4, h5⟩ := h
  refine ⟨cs, (hb.block g hl).trans h1, h2, h3, fun j hj => ?_, h5⟩
  obtain ⟨gj, nj, a, b, c⟩ := h4 j hj
  exact ⟨gj, nj, a, b, c.below hb⟩
theorem MadeSS.cell {w : World} {g n k : Nat} {sss : List (List Int)} (h : MadeSS w g n k sss) {j : Nat} (hj : j < n) : ∃ Aj nj cj, w.cell? ⟨g, j, none⟩ = some (.slice Aj nj cj) := by
  obtain ⟨cs, h1, h2, h3, h4, h5⟩ := h
  obtain ⟨Aj, nj, cj, e⟩ := h5 j hj
  exact ⟨Aj, nj, cj, by simp only [World.cell?, h1]; exact e⟩
theorem MadeSS.free {w : World} {g n k : Nat} {sss : List (List Int)} (h : MadeSS w g n k sss) (j : Nat) : w.frozen? ⟨g, j, none⟩ = false := by
  obtain ⟨cs, h1, _⟩ := h
  simp [World.frozen?, h1]
theorem MadeSS.step {w : World} {g n k : Nat} {sss : List (List Int)} (h : MadeSS w g n k sss) (hk : k < n) {gk nk : Nat} (hg : g < gk) (ho : OwnAt w gk nk nk (sss.getD k [])) : MadeSS (w.setCell ⟨g, k, none⟩ (.slice (some ⟨gk, 0, none⟩) nk nk)) g n (k + 1) sss := by
  obtain ⟨cs, h1, h2, h3, h4, h5⟩ := h
  refine ⟨cs.setIfInBounds k (.slice (some ⟨gk, 0, none⟩) nk nk), by simp [World.setCell, Array.getElem?_modify, h1], by simp [h2], h3, fun j hj => ?_, fun j hj => ?_⟩
  · by_cases hjk : j = k
    · subst hjk
      exact ⟨gk, nk, by rw [Array.getElem?_setIfInBounds, if_pos rfl, if_pos (by omega)], hg, ho.far (p := ⟨g, j, none⟩) (by simp; omega) _⟩
    · obtain ⟨gj, nj, a, b, c⟩ := h4 j (by omega)
      exact ⟨gj, nj, by rw [Array.getElem?_setIfInBounds, if_neg (by omega)]; exact a, b, c.far (p := ⟨g, k, none⟩) (by simp; omega) _⟩
  · by_cases hjk : j = k
    · subst hjk
      exact ⟨_, _, _, by rw [Array.getElem?_setIfInBounds, if_pos rfl, if_pos (by omega)]⟩
    · obtain ⟨Aj, nj, cj, e⟩ := h5 j hj
      exact ⟨Aj, nj, cj, by rw [Array.getElem?_setIfInBounds, if_neg (by omega)]; exact e⟩
theorem MadeSS.far {w : World} {g n k : Nat} {sss : List (List Int)} (h : MadeSS w g n k sss) {p : Addr} (hp : p.block < g) (u : Value) : MadeSS (w.setCell p u) g n k sss := by
  obtain ⟨cs, h1, h2, h3, h4, h5⟩ := h
  refine ⟨cs, (Below.heap_setCell w p u g (by omega)).trans h1, h2, h3, fun j hj => ?_, h5⟩
  obtain ⟨gj, nj, a, b, c⟩ := h4 j hj
  exact ⟨gj, nj, a, b, c.far (by omega) _⟩
theorem MadeSS.stk {w : World} {g n : Nat} {sss : List (List Int)} (h : MadeSS w g n n sss) (hl : sss.length = n) : IsStk w (some ⟨g, 0, none⟩) n n sss := by
  have hlt := h.lt
  obtain ⟨cs, h1, h2, h3, h4, h5⟩ := h
  refine ⟨Nat.le_refl _, h3, hl, (fun e => by cases e), fun hn => ⟨g, 0, rfl, hlt, fun i hi => ?_⟩⟩
  obtain ⟨gj, nj, a, b, c⟩ := h4 i hi
  exact ⟨_, nj, nj, by rw [Nat.zero_add]; simp only [World.cell?, h1]; exact a, c.ints⟩

theorem ss_info : (Try.prog.info? 33).map (fun i => (i.zero, i.size, i.bytes)) = some (some (.slice none 0 0), 1, 24) := by kernel_rfl
def zerosS (n : Nat) : Array Value := madeCells #[.slice none 0 0] n
theorem zerosS_made (w : World) (n : Nat) (hn : n ≤ maxLen) (sss : List (List Int)) : MadeSS (w.alloc (.cells (zerosS n) 33)) w.heap.size n 0 sss := by
  refine ⟨zerosS n, heap_alloc_new w _, by simp [zerosS, size_madeCells], hn, (fun j hj => absurd hj (by omega)), fun j hj => ⟨none, 0, 0, ?_⟩⟩
  have e := toList_madeCells_one (.slice none 0 0) n
  have : (zerosS n).toList[j]? = (List.replicate n (Value.slice none 0 0))[j]? := by rw [zerosS, e]
  rw [← Array.getElem?_toList, this]
  simp [hj]
theorem run_zerosS (n : Nat) (hn : n ≤ 1048576) (W : World) :
    (Instr.makeSlice 22 (.int .i64 (n : Int)) (.int .i64 (n : Int))).run Try.prog W = .ok (.slice (some ⟨W.heap.size, 0, none⟩) n n) (W.alloc (.cells (zerosS n) 33)) := by
  obtain ⟨i0, hi, hz0, hz1, hz2⟩ := info_parts ss_info
  have := run_make (P := Try.prog) W 22 33 i0 _ Try.underlying22 hi hz0 .i64 .i64 (n : Int) (n : Int) (by omega) (by omega) (by rw [hz2]; omega) (by omega)
  simpa [zerosS, hz1, Value.cells] using this

def ToSPost (w : World) (sss : List (List Int)) (e : Ending) (w' : World) : Prop :=
  ∃ (g n : Nat), e = .returned (.slice (some ⟨g, 0, none⟩) n n) ∧ w.heap.size ≤ g ∧ MadeSS w' g n n sss ∧ sss.length = n ∧ Below w.heap.size w w'

set_option maxHeartbeats 1600000 in
theorem toIntSS_any (A : Option Addr) (n c : Nat) (sss : List (List Int)) (w : World) (h : IsStk w A n c sss) (hn : n ≤ 1048576) (hs : ∀ j, j < n → (sss.getD j []).length ≤ 1048576) :
    Calls Try.prog 42 #[.slice A n c] w (ToSPost w sss) := by
  have hmk := run_zerosS n hn
  have hn' : (n : Int) ≤ 1048576 := by omega
  have Hl := Lib.hid h.length
  have H := Lib.hid h
  have Hs := Lib.hid hs
  clear h hs
  go_enter Try.func42, Try.ntmps42
  go_wp2_with (fail)
  have h0 := zerosS_made w n (by unfold maxLen; omega) sss
  obtain ⟨g, hg⟩ : ∃ g, w.heap.size = g := ⟨_, rfl⟩
  have hB : Below w.heap.size w (w.alloc (.cells (zerosS n) 33)) := (Below.refl _ _).alloc (Nat.le_refl _) _
  rw [hg] at h0
  have H0 := Lib.hid h0
  have HB := Lib.hid hB
  have Hg := Lib.hid hg
  clear h0 hmk hB
  rw [hg]
  generalize w.alloc (.cells (zerosS n) 33) = w0 at *
  clear hg
  go_loopw [4] (fun i wr => ∃ k : Nat, k ≤ n ∧ i = .int .i64 k ∧ MadeSS wr g n k sss ∧ Below w.heap.size w wr) (fun i _ => n - (intOf i).toNat)
  case atStart => exact ⟨0, by omega, rfl, H0.out, HB.out⟩
  case round =>
    obtain ⟨k, hk, rfl, ho, hbw⟩ := hrel
    have hsw := hbw.size
    by_cases hlt : k < n
    · have hlt' : (k : Int) < n := by omega
      have hk0 : (0 : Int) ≤ k := by omega
      obtain ⟨b, off, Ai, ni, ci, hA, hb, hc0, hz⟩ := H.out.at_ hlt
      subst hA
      have hc := (hbw.cell (p := ⟨b, off + k, none⟩) hb).trans hc0
      have hz1 := hz.below hbw
      have hni : ni ≤ 1048576 := by have := Hs.out k hlt; rw [hz.length] at this; exact this
      have hbg : ¬ b = g := by have := Hg.out; omega
      have Ho := Lib.hid ho
      clear ho hc0 hz
      go_wp2_with (first
        | (go_at_call 26; refine (toIntS_any _ _ _ _ _ hz1 hni).mono ?_; rintro e w1 ⟨g1, n1, rfl, hg1, ho1, hb1⟩
           have ho2 := Ho.out.below hb1
           have hb2 := hbw.trans (hb1.mono hsw)
           obtain ⟨Aj, nj, cj, q0⟩ := ho2.cell hlt
           have q1 := ho2.free k
           have hgg : g < g1 := Nat.lt_of_lt_of_le Ho.out.lt hg1
           have Ho2 := Lib.hid ho2
           clear ho2))
      exact ⟨⟨k + 1, by omega, by go_num, Ho2.out.step hlt hgg ho1, hb2.setCell (p := ⟨g, k, none⟩) (by have := Hg.out; simp; omega) _⟩, by simp [intOf]; omega⟩
    · obtain rfl : k = n := by omega
      have Ho := Lib.hid ho
      clear ho
      go_wp2_with (fail)
      go_ret
      exact ⟨g, k, rfl, by rw [Hg.out]; exact Nat.le_refl _, Ho.out, Hl.out, hbw⟩

set_option maxHeartbeats 1600000 in
theorem eqIntSS_same (A : Option Addr) (n c : Nat) (sss : List (List Int)) (A' : Option Addr) (c' : Nat) (w : World) (h : IsStk w A n c sss) (h' : IsStk w A' n c' sss) :
    Calls Try.prog 45 #[.slice A n c, .slice A' n c'] w fun e w' => e = .returned (.bool true) ∧ Below w.heap.size w w' := by
  have hlen := h.len
  have H := Lib.hid h
  have H' := Lib.hid h'
  clear h h'
  go_enter Try.func45, Try.ntmps45
  go_wp2_with (fail)
  go_loopw [5] (fun i wr => ∃ k : Nat, k ≤ n ∧ i = .int .i64 k ∧ Below w.heap.size w wr) (fun i _ => n - (intOf i).toNat)
  case atStart => exact ⟨0, by omega, rfl, Below.refl _ _⟩
  case round =>
    obtain ⟨k, hk, rfl, hbw⟩ := hrel
    have hsw := hbw.size
    by_cases hlt : k < n
    · have hlt' : (k : Int) < n := by omega
      have hk0 : (0 : Int) ≤ k := by omega
      obtain ⟨b, off, Ai, ni, ci, hA, hb, hc0, hz⟩ := H.out.at_ hlt
      obtain ⟨b', off', Aj, nj, cj, hA', hb', hc0', hz'⟩ := H'.out.at_ hlt
      subst hA hA'
      have hc := (hbw.cell (p := ⟨b, off + k, none⟩) hb).trans hc0
      have hc' := (hbw.cell (p := ⟨b', off' + k, none⟩) hb').trans hc0'
      have hz1 : Ints wr.drew Ai ni ci (sss.getD k []) := hz.below hbw.drew
      have hz2 : Ints wr.drew Aj nj cj (sss.getD k []) := hz'.below hbw.drew
      have he := eqL_self (sss.getD k [])
      generalize sss.getD k [] = xs at hz1 hz2 he
      clear hc0 hc0' hz hz'
      go_wp2_with (fail)
      go_region_with (go_at_call 21; refine (eqIntS_any _ _ _ _ _ _ _ _ _ hz1 hz2).mono ?_; rintro e w1 ⟨rfl, hb1⟩; rw [he]; have hb2 := (hbw.drew).trans (hb1.mono hsw))
      all_goals go_wp2_with (fail)
      all_goals exact ⟨⟨k + 1, by omega, by go_num, hb2⟩, by simp [intOf]; omega⟩
    · obtain rfl : k = n := by omega
      go_wp2_with (fail)
      go_ret
      exact ⟨rfl, hbw⟩

set_option maxHeartbeats 800000 in
theorem szIntS_any (A : Option Addr) (n c : Nat) (left : Int) (w : World) (h0 : 0 ≤ left) (h1 : left ≤ 1048576) (hn : (n : Int) ≤ 9223372036854775807) :
    Calls Try.prog 61 #[.slice A n c, .int .i64 left] w fun e w' => e = .returned (.int .i64 (if left - n < 0 then -1 else left - n)) ∧ w = w' := by
  have hw : IntKind.i64.wrap (left - n) = left - n := IntWalk.i64_in _ (by omega)
  by_cases hlt : left - n < 0
  · rw [if_pos hlt]
    go_enter Try.func61, Try.ntmps61
    go_wp2
    all_goals go_ret
    all_goals exact ⟨rfl, rfl⟩
  · rw [if_neg hlt]
    go_enter Try.func61, Try.ntmps61
    go_wp2
    all_goals go_ret
    all_goals exact ⟨rfl, rfl⟩

/-- the room that is left: none, or so much that all lengths are small -/
def SzPost (w : World) (n : Nat) (sss : List (List Int)) (e : Ending) (w' : World) : Prop :=
  ∃ v : Int, e = .returned (.int .i64 v) ∧ (v < 0 ∨ (0 ≤ v ∧ v ≤ 1048576 ∧ n ≤ 1048576 ∧ ∀ j, j < n → (sss.getD j []).length ≤ 1048576)) ∧ Below w.heap.size w w'

set_option maxHeartbeats 1600000 in
theorem szIntSS_any (A : Option Addr) (n c : Nat) (sss : List (List Int)) (left : Int) (w : World) (h : IsStk w A n c sss) (h0 : 0 ≤ left) (h1 : left ≤ 1048576) :
    Calls Try.prog 38 #[.slice A n c, .int .i64 left] w (SzPost w n sss) := by
  have hlen := h.len
  have H := Lib.hid h
  have hw : IntKind.i64.wrap (left - n) = left - n := IntWalk.i64_in _ (by omega)
  clear h
  by_cases hlt0 : left - n < 0
  · go_enter Try.func38, Try.ntmps38
    go_wp2_with (fail)
    go_ret
    exact ⟨_, rfl, .inl (by omega), Below.refl _ _⟩
  · have hn1 : n ≤ 1048576 := by omega
    go_enter Try.func38, Try.ntmps38
    go_wp2_with (fail)
    go_loopw [1, 5] (fun q i wr => ∃ (k : Nat) (v : Int), k ≤ n ∧ i = .int .i64 k ∧ q = .int .i64 v ∧ 0 ≤ v ∧ v ≤ 1048576 ∧ (∀ j, j < k → (sss.getD j []).length ≤ 1048576) ∧ Below w.heap.size w wr) (fun _ i _ => n - (intOf i).toNat)
    case atStart => exact ⟨0, _, by omega, rfl, rfl, by omega, by omega, (fun j hj => absurd hj (by omega)), Below.refl _ _⟩
    case round =>
      obtain ⟨k, v, hk, rfl, rfl, hv0, hv1, hall, hbw⟩ := hrel
      have Hall := Lib.hid hall
      clear hall hw
      by_cases hlt : k < n
      · have hlt' : (k : Int) < n := by omega
        have hk0 : (0 : Int) ≤ k := by omega
        obtain ⟨b, off, Ai, ni, ci, hA, hb, hc0, hz⟩ := H.out.at_ hlt
        subst hA
        have hc := (hbw.cell (p := ⟨b, off + k, none⟩) hb).trans hc0
        have hzl := hz.len
        have hzn := hz.length
        clear hc0 hz
        by_cases hni : v - ni < 0
        · go_wp2_with (go_at_call 61; refine (szIntS_any _ _ _ _ _ hv0 hv1 hzl).mono ?_; rintro e w1 ⟨rfl, rfl⟩; rw [if_pos hni])
          go_ret
          exact ⟨_, rfl, .inl (by omega), hbw⟩
        · have hnext : ∀ j, j < k + 1 → (sss.getD j []).length ≤ 1048576 := by
            intro j hj
            by_cases hjk : j = k
            · subst hjk; omega
            · exact Hall.out j (by omega)
          have Hn := Lib.hid hnext
          clear hnext
          have hv2 : 0 ≤ v - ni := by omega
          have hv3 : v - ni ≤ 1048576 := by omega
          go_wp2_with (go_at_call 61; refine (szIntS_any _ _ _ _ _ hv0 hv1 hzl).mono ?_; rintro e w1 ⟨rfl, rfl⟩; rw [if_neg hni])
          exact ⟨⟨k + 1, _, by omega, by go_num, rfl, hv2, hv3, Hn.out, hbw⟩, by simp [intOf]; omega⟩
      · obtain rfl : k = n := by omega
        go_wp2_with (fail)
        go_ret
        exact ⟨_, rfl, .inr ⟨hv0, hv1, hn1, Hall.out⟩, hbw⟩

set_option maxHeartbeats 800000 in
theorem szYard_any (hi : Int) (A : Option Addr) (n c : Nat) (sss : List (List Int)) (left : Int) (w : World) (h : IsStk w A n c sss) (h0 : 0 ≤ left) (h1 : left ≤ 1048576) :
    Calls Try.prog 12 #[.agg #[.int .i64 hi, .slice A n c], .int .i64 left] w (SzPost w n sss) := by
  have H := Lib.hid h
  clear h
  go_enter Try.func12, Try.ntmps12
  go_wp2_with (fail)
  refine (szIntSS_any _ _ _ _ _ _ (H.out.alloc _) h0 h1).mono ?_
  rintro e w1 ⟨v, rfl, hv, hb1⟩
  have hb2 : Below w.heap.size w w1 := ((Below.refl _ _).alloc (Nat.le_refl _) _).trans (hb1.mono (by simp))
  rcases hv with hv | ⟨hv0, hv1, hv2, hv3⟩
  · go_wp2_with (fail)
    go_ret
    exact ⟨_, rfl, .inl (by omega), hb2⟩
  · have Hv3 := Lib.hid hv3
    clear hv3
    go_wp2_with (fail)
    go_ret
    exact ⟨_, rfl, .inr ⟨hv0, hv1, hv2, Hv3.out⟩, hb2⟩

def ToYPost (w : World) (hi : Int) (sss : List (List Int)) (e : Ending) (w' : World) : Prop :=
  ∃ (g n : Nat), e = .returned (.agg #[.int .i64 hi, .slice (some ⟨g, 0, none⟩) n n]) ∧ w.heap.size ≤ g ∧ MadeSS w' g n n sss ∧ sss.length = n ∧ Below w.heap.size w w'

set_option maxHeartbeats 800000 in
theorem toYard_any (hi : Int) (A : Option Addr) (n c : Nat) (sss : List (List Int)) (w : World) (h : IsStk w A n c sss) (hn : n ≤ 1048576) (hs : ∀ j, j < n → (sss.getD j []).length ≤ 1048576) :
    Calls Try.prog 14 #[.agg #[.int .i64 hi, .slice A n c]] w (ToYPost w hi sss) := by
  have H := Lib.hid h
  have Hs := Lib.hid hs
  clear h hs
  go_enter Try.func14, Try.ntmps14
  go_wp2_with (fail)
  refine (toIntSS_any _ _ _ _ _ (((H.out.alloc _).alloc _).alloc _) hn Hs.out).mono ?_
  rintro e w1 ⟨g, n1, rfl, hg, ho, hl, hb1⟩
  obtain ⟨hc1, hf1⟩ := bcell hb1
  have z1 := hb1.size
  simp at z1
  have y0 : w.heap.size < w1.heap.size := by omega
  have y1 : w.heap.size + 1 < w1.heap.size := by omega
  have y2 : w.heap.size + 2 < w1.heap.size := by omega
  have y3 : w.heap.size + 1 + 1 < w1.heap.size := by omega
  simp at hg
  have hgn1 : ¬ w.heap.size + 1 = g := by omega
  have hgn2 : ¬ w.heap.size + 2 = g := by omega
  have Ho := Lib.hid ho
  clear ho
  go_wp2_with (fail)
  have Q0 : (((w1.setCell ⟨w.heap.size + 1 + 1, 1, none⟩ (.slice (some ⟨g, 0, none⟩) n1 n1)).setCell ⟨w.heap.size + 1, 0, none⟩ (.int .i64 hi)).setCell ⟨w.heap.size + 1, 1, none⟩ (.slice (some ⟨g, 0, none⟩) n1 n1)).cell? ⟨w.heap.size + 1, 0, none⟩ = some (.int .i64 hi) := by go_simp
  have Q1 : (((w1.setCell ⟨w.heap.size + 1 + 1, 1, none⟩ (.slice (some ⟨g, 0, none⟩) n1 n1)).setCell ⟨w.heap.size + 1, 0, none⟩ (.int .i64 hi)).setCell ⟨w.heap.size + 1, 1, none⟩ (.slice (some ⟨g, 0, none⟩) n1 n1)).cell? ⟨w.heap.size + 1, 1, none⟩ = some (.slice (some ⟨g, 0, none⟩) n1 n1) := by go_simp
  have hb2 : Below w.heap.size w w1 := ((((Below.refl _ _).alloc (Nat.le_refl _) _).alloc (by simp) _).alloc (by simp; omega) _).trans (hb1.mono (by simp; omega))
  refine bodyPost_ret (v := .agg #[.int .i64 hi, .slice (some ⟨g, 0, none⟩) n1 n1]) (by simp [results, Try.results14, go_sem, Q0, Q1]) rfl ⟨g, n1, rfl, by omega, ((Ho.out.far (by simp; omega) _).far (by simp; omega) _).far (by simp; omega) _, hl, ((hb2.setCell (by simp; omega) _).setCell (by simp) _).setCell (by simp) _⟩

set_option maxHeartbeats 800000 in
theorem eqYard_same (hi : Int) (A : Option Addr) (n c : Nat) (sss : List (List Int)) (A' : Option Addr) (c' : Nat) (w : World) (h : IsStk w A n c sss) (h' : IsStk w A' n c' sss) :
    Calls Try.prog 16 #[.agg #[.int .i64 hi, .slice A n c], .agg #[.int .i64 hi, .slice A' n c']] w fun e w' => e = .returned (.bool true) ∧ Below w.heap.size w w' := by
  have H := Lib.hid h
  have H' := Lib.hid h'
  clear h h'
  go_enter Try.func16, Try.ntmps16
  go_wp2_with (fail)
  refine (eqIntSS_same _ _ _ _ _ _ _ ((H.out.alloc _).alloc _) ((H'.out.alloc _).alloc _)).mono ?_
  rintro e w1 ⟨rfl, hb1⟩
  have hb2 : Below w.heap.size w w1 := (((Below.refl _ _).alloc (Nat.le_refl _) _).alloc (by simp) _).trans (hb1.mono (by simp; omega))
  go_wp2_with (fail)
  go_ret
  exact ⟨rfl, hb2⟩
end Go.Proofs.Yteghialkkhmggaa
