/- The walks of the laws FnBoxText and FnReadBox. Conditions: that the code reads as bytes; the listed variables are as the program's text lays them. -/
import Derived.Test.YtbhmbmfhbeocoaaDoorLwBx2
import Derived.Test.YtbhmbmfhbeocoaaDoorDrBoxT
import Derived.Test.YtbhmbmfhbeocoaaDoorNum
namespace Go.Proofs.YtbhmbmfhbeocoaaDoor
open Go.RowKit
set_option linter.unusedVariables false

theorem read_false {l : List UInt8} {x : Bx} (h : readB l = (x, false)) : x = zeroB := by
  unfold readB lookB at h
  split at h
  · split at h
    · cases h
    · injection h with h _
      exact h.symm
  · injection h with h _
    exact h.symm
theorem read_true {l : List UInt8} {x : Bx} (h : readB l = (x, true)) : bxB x = true ∧ boxL x = l := look_spec h
theorem boxT_eq {x : Bx} {s : ByteArray} (h : boxL x = s.data.toList) : boxT x = s := by
  apply ByteArray.ext
  apply Array.ext'
  rw [boxT_list]
  exact h
theorem text_empty {s : ByteArray} (h : s ≠ ⟨#[]⟩) : (s.toList == (⟨#[]⟩ : ByteArray).toList) = false ∧ s.toList.isEmpty = false := by
  have hne : (s.toList == (⟨#[]⟩ : ByteArray).toList) = false := by rw [str_beq', decide_eq_false h]
  refine ⟨hne, ?_⟩
  have e0 : (⟨#[]⟩ : ByteArray).toList = [] := by kernel_rfl
  rw [e0] at hne
  have e : ∀ l : List UInt8, l.isEmpty = (l == []) := by intro l; cases l <;> rfl
  rw [e, hne]

set_option maxHeartbeats 3200000 in
theorem fnBoxText_walk (w : World) (A : Option Addr) (n c : Nat) (zs : List Int) (h : IsRow .u8 w A n c zs) (hT : Tabs w) :
    Calls Tryd.prog 5 #[.slice A n c] w fun e w' => e = .returned (.bool true) ∧ Below w.heap.size w w' := by
  by_cases hn : 1048576 < n
  · have hn' : (1048576 : Int) < n := by omega
    clear h hT
    go_enter Tryd.func5, Tryd.ntmps5
    go_wp2_with (fail)
    go_ret
    exact ⟨rfl, (by repeat' (first | with_reducible exact Below.refl _ _ | with_reducible assumption | with_reducible refine bel_step (by with_reducible assumption) ?_ ?_ | with_reducible refine Below.drew ?_ | with_reducible refine below_drewN ?_ _ | with_reducible refine Below.alloc ?_ ?_ _ | with_reducible refine Below.setCell ?_ ?_ _ | (simp; done) | (simp; omega) | omega | with_reducible refine below_le (by with_reducible assumption) ?_))⟩
  · have hn' : (n : Int) ≤ 1048576 := by omega
    have H := Lib.hid h
    have HT := Lib.hid hT
    clear h hn hT
    go_enter Tryd.func5, Tryd.ntmps5
    go_wp2_with (fail)
    refine (drawBoxText_any _ _ _ _ _ H.out).mono ?_
    rintro e w1 ⟨⟨id, wt, cl, po, co⟩, rfl, hb1⟩
    unfold Bx.val
    simp only
    have hv : BxVar (w1.alloc (.cells #[.int .i64 id, .int .i64 wt, .int .i64 cl, .int .i64 po, .bool co] 25)) w1.heap.size ⟨id, wt, cl, po, co⟩ := by
      unfold BxVar
      exact heap_alloc_new w1 _
    have hb2 : Below w.heap.size w (w1.alloc (.cells #[.int .i64 id, .int .i64 wt, .int .i64 cl, .int .i64 po, .bool co] 25)) := hb1.alloc hb1.size _
    have hs2 := hb2.size
    have Hv := Lib.hid hv
    have Hb2 := Lib.hid hb2
    clear hv hb2 hb1
    obtain ⟨T, hTx⟩ : ∃ T, boxT ⟨id, wt, cl, po, co⟩ = T := ⟨_, rfl⟩
    have HTx := Lib.hid hTx
    clear hTx
    go_wp2_with (fail)
    refine (implBoxText_any _ _ _ _ _ _ (tab_below HT.out.1 Hb2.out)).mono ?_
    rintro e w3 ⟨rfl, hb3⟩
    rw [HTx.out]
    have hv3 := Hv.out.below hb3
    have hb4 := Hb2.out.trans (hb3.mono hs2)
    have hs4 := hb4.size
    obtain ⟨⟨q0, q1, q2, q3, q4⟩, _⟩ := hv3.cells
    simp only at q0 q1 q2 q3 q4
    have Hv3 := Lib.hid hv3
    clear hb3 hv3 hs2 Hv Hb2
    go_wp2_with (fail)
    refine (specBoxText_any _ _ _ _ _ _).mono ?_
    rintro e w5 ⟨rfl, hb5⟩
    rw [HTx.out]
    have hv5 := Hv3.out.below hb5
    have hb6 := hb4.trans (hb5.mono hs4)
    have hs6 := hb6.size
    clear q0 q1 q2 q3 q4 hb5 hb4 hs4 Hv3
    obtain ⟨⟨q0, q1, q2, q3, q4⟩, _⟩ := hv5.cells
    simp only at q0 q1 q2 q3 q4
    have Hv5 := Lib.hid hv5
    clear hv5
    cases hv : bxB ⟨id, wt, cl, po, co⟩ with
    | false =>
      have hT0 : T = ⟨#[]⟩ := by rw [← HTx.out]; exact boxT_none hv
      subst hT0
      have hbv : boxB id wt cl po = false := hv
      have Hbv := Lib.hid hbv
      clear hv hbv HTx
      go_wp2_with (first
        | (go_at_call 14; refine (implBoxValid_any _ _ _ _ _ _).mono ?_; rintro e w7 ⟨rfl, hb7⟩; rw [Hbv.out]; have hb8 := hb6.trans (hb7.mono hs6))
        | (go_at_call 15; refine (alive_any _).mono ?_; rintro e w' ⟨rfl, rfl⟩))
      go_ret
      exact ⟨rfl, hb8⟩
    | true =>
      have hTl : T.data.toList = boxL ⟨id, wt, cl, po, co⟩ := by rw [← HTx.out, boxT_list]
      have hrd : readB T.data.toList = (⟨id, wt, cl, po, co⟩, true) := by rw [hTl]; exact read_box hv
      have hTne : T ≠ ⟨#[]⟩ := by
        rintro rfl
        have := boxL_nil.1 hTl.symm
        rw [hv] at this
        cases this
      obtain ⟨n1, n2⟩ := text_empty hTne
      have hTs : T.size ≤ 1048577 := by
        have := (boxT_bound hv).2
        rw [HTx.out] at this
        omega
      have HI := Lib.hid (impl_read hTs hrd)
      clear hTl hrd hTne hv hTs HTx
      go_wp2_with (fail)
      refine (HI.out _ (tabs_below HT.out hb6)).mono ?_
      rintro e w7 ⟨rfl, hb7⟩
      simp only
      have hv7 := Hv5.out.below hb7
      have hb8 := hb6.trans (hb7.mono hs6)
      have hs8 := hb8.size
      have hlt := hv7.lt
      clear q0 q1 q2 q3 q4 hb7 hb6 hs6
      obtain ⟨⟨q0, q1, q2, q3, q4⟩, _⟩ := hv7.cells
      simp only at q0 q1 q2 q3 q4
      clear hv7 Hv5 HI
      have hb9 : Below w.heap.size w (w7.alloc (.cells #[.int .i64 id, .int .i64 wt, .int .i64 cl, .int .i64 po, .bool co] 25)) := hb8.alloc hs8 _
      go_wp2_with (fail)
      go_ret
      exact ⟨rfl, hb9⟩

set_option maxHeartbeats 3200000 in
theorem fnReadBox_walk (w : World) (A : Option Addr) (n c : Nat) (zs : List Int) (h : IsRow .u8 w A n c zs) (hT : Tabs w) :
    Calls Tryd.prog 6 #[.slice A n c] w fun e w' => e = .returned (.bool true) ∧ Below w.heap.size w w' := by
  by_cases hn : 1048576 < n
  · have hn' : (1048576 : Int) < n := by omega
    clear h hT
    go_enter Tryd.func6, Tryd.ntmps6
    go_wp2_with (fail)
    go_ret
    exact ⟨rfl, (by repeat' (first | with_reducible exact Below.refl _ _ | with_reducible assumption | with_reducible refine bel_step (by with_reducible assumption) ?_ ?_ | with_reducible refine Below.drew ?_ | with_reducible refine below_drewN ?_ _ | with_reducible refine Below.alloc ?_ ?_ _ | with_reducible refine Below.setCell ?_ ?_ _ | (simp; done) | (simp; omega) | omega | with_reducible refine below_le (by with_reducible assumption) ?_))⟩
  · have hn' : (n : Int) ≤ 1048576 := by omega
    have H := Lib.hid h
    have HT := Lib.hid hT
    clear h hn hT
    go_enter Tryd.func6, Tryd.ntmps6
    go_wp2_with (fail)
    refine (drawReadBox_any _ _ _ _ _ H.out).mono ?_
    rintro e w1 ⟨s, rfl, hsz, hb1⟩
    have hs1 := hb1.size
    obtain ⟨⟨i, t, d, p, o⟩, k, hx⟩ := read_letters s.data.toList
    have hsz' : s.size ≤ 1048577 := by omega
    have HS := Lib.hid (spec_read hsz' hx)
    have HI := Lib.hid (impl_read hsz' hx)
    have Hx := Lib.hid hx
    clear hx hsz'
    go_wp2_with (fail)
    refine (HI.out _ (tabs_below HT.out hb1)).mono ?_
    rintro e w2 ⟨rfl, hb2⟩
    simp only
    have hb3 := hb1.trans (hb2.mono hs1)
    have hv : BxVar (w2.alloc (.cells #[.int .i64 i, .int .i64 t, .int .i64 d, .int .i64 p, .bool o] 25)) w2.heap.size ⟨i, t, d, p, o⟩ := by
      unfold BxVar
      exact heap_alloc_new w2 _
    have hb4 : Below w.heap.size w (w2.alloc (.cells #[.int .i64 i, .int .i64 t, .int .i64 d, .int .i64 p, .bool o] 25)) := hb3.alloc hb3.size _
    have hs4 := hb4.size
    have Hv := Lib.hid hv
    have Hb4 := Lib.hid hb4
    clear hv hb4 hb3 hb2 hb1 hs1 HI
    go_wp2_with (fail)
    refine (HS.out _).mono ?_
    rintro e w3 ⟨rfl, hb5⟩
    simp only
    have hv5 := Hv.out.below hb5
    have hb6 := Hb4.out.trans (hb5.mono hs4)
    have hs6 := hb6.size
    have hlt := hv5.lt
    obtain ⟨⟨q0, q1, q2, q3, q4⟩, _⟩ := hv5.cells
    simp only at q0 q1 q2 q3 q4
    have hb7 : Below w.heap.size w (w3.alloc (.cells #[.int .i64 i, .int .i64 t, .int .i64 d, .int .i64 p, .bool o] 25)) := hb6.alloc hs6 _
    have hs7 := hb7.size
    have hv7 := hv5.below ((Below.refl _ _).alloc (Nat.le_refl _) (.cells #[.int .i64 i, .int .i64 t, .int .i64 d, .int .i64 p, .bool o] 25))
    have Hv7 := Lib.hid hv7
    have Hb7 := Lib.hid hb7
    clear hv5 hb5 hb6 hs6 hs4 Hv Hb4 HS hb7 hv7
    cases k with
    | false =>
      have hz := read_false Hx.out
      injection hz with z0 z1 z2 z3 z4
      subst z0 z1 z2 z3 z4
      go_wp2_with (go_at_call 15; refine (alive_any _).mono ?_; rintro e w' ⟨rfl, rfl⟩)
      go_ret
      exact ⟨rfl, Hb7.out⟩
    | true =>
      obtain ⟨hval, hbl⟩ := read_true Hx.out
      have hbv : boxB i t d p = true := hval
      have hbt := boxT_eq hbl
      have hsl : (s ++ (⟨#[47]⟩ : ByteArray)).data.toList = s.data.toList ++ [47] := by
        rw [ByteArray.data_append, Array.toList_append]
      have hsn := read_slash s.data.toList
      rw [← hsl] at hsn
      obtain ⟨⟨⟨i2, t2, d2, p2, o2⟩, k2⟩, hx2⟩ : ∃ X, readB (s ++ (⟨#[47]⟩ : ByteArray)).data.toList = X := ⟨_, rfl⟩
      rw [hx2] at hsn
      obtain rfl : k2 = false := hsn
      have hadd : ∀ W, (Op.stringOp .add s ⟨#[47]⟩).run Tryd.prog W = .ok (.string (s ++ ⟨#[47]⟩)) W := fun W => run_string_add_sum W _ _ (by show s.size + 1 ≤ _; omega)
      have hsz2 : (s ++ (⟨#[47]⟩ : ByteArray)).size ≤ 1048577 := by
        rw [ByteArray.size_append]
        show s.size + 1 ≤ _
        omega
      have HI2 := Lib.hid (impl_read hsz2 hx2)
      obtain ⟨S2, hS2⟩ : ∃ S2, s ++ (⟨#[47]⟩ : ByteArray) = S2 := ⟨_, rfl⟩
      rw [hS2] at HI2 hadd
      have Hbv := Lib.hid hbv
      have Hbt := Lib.hid hbt
      clear hsl hx2 hsz2 hS2 hval hbl hbv hbt
      go_wp2_with (fail)
      refine (HI2.out _ (tabs_below HT.out Hb7.out)).mono ?_
      rintro e w8 ⟨rfl, hb8⟩
      simp only
      have hv8 := Hv7.out.below hb8
      have hb9 := Hb7.out.trans (hb8.mono hs7)
      have hlt8 := hv8.lt
      have hb10 : Below w.heap.size w (w8.alloc (.cells #[.int .i64 i2, .int .i64 t2, .int .i64 d2, .int .i64 p2, .bool o2] 25)) := hb9.alloc hb9.size _
      have hs10 := hb10.size
      have hv10 := hv8.below ((Below.refl _ _).alloc (Nat.le_refl _) (.cells #[.int .i64 i2, .int .i64 t2, .int .i64 d2, .int .i64 p2, .bool o2] 25))
      clear q0 q1 q2 q3 q4
      obtain ⟨⟨q0, q1, q2, q3, q4⟩, _⟩ := hv8.cells
      simp only at q0 q1 q2 q3 q4
      have Hv10 := Lib.hid hv10
      have Hb10 := Lib.hid hb10
      clear hv8 hb8 hb9 HI2 hb10 hv10
      go_wp2_with (fail)
      refine (implBoxValid_any _ _ _ _ _ _).mono ?_
      rintro e w11 ⟨rfl, hb11⟩
      rw [Hbv.out]
      have hv11 := Hv10.out.below hb11
      have hb12 := Hb10.out.trans (hb11.mono hs10)
      clear q0 q1 q2 q3 q4
      obtain ⟨⟨q0, q1, q2, q3, q4⟩, _⟩ := hv11.cells
      simp only at q0 q1 q2 q3 q4
      clear hv11 hb11 Hv10 Hb10
      go_wp2_with (fail)
      refine (implBoxText_any _ _ _ _ _ _ (tab_below HT.out.1 hb12)).mono ?_
      rintro e w13 ⟨rfl, hb13⟩
      rw [Hbt.out]
      have hb14 := hb12.trans (hb13.mono hb12.size)
      clear hb13 hb12
      go_wp2_with (fail)
      go_ret
      exact ⟨rfl, hb14⟩
end Go.Proofs.YtbhmbmfhbeocoaaDoor
