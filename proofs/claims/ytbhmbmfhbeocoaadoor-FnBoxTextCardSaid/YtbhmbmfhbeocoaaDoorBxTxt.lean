/- Both BoxText. (Printed by wip/genboxtxt.py.) Conditions: for the program's, that strconv's table of powers of ten is as its text lays it. -/
import Derived.Test.YtbhmbmfhbeocoaaDoorNumS
import Derived.Test.YtbhmbmfhbeocoaaDoorBxMath
import Derived.Test.YtbhmbmfhbeocoaaDoorInvL
namespace Go.Proofs.YtbhmbmfhbeocoaaDoor
open Go.RowKit
set_option linter.unusedVariables false

def boxT (x : Bx) : ByteArray := ⟨(boxL x).toArray⟩
theorem boxT_list (x : Bx) : (boxT x).data.toList = boxL x := by simp [boxT]
theorem boxT_none {id wt cl po : Int} {co : Bool} (h : boxB id wt cl po = false) : boxT ⟨id, wt, cl, po, co⟩ = ⟨#[]⟩ := by
  have : boxL ⟨id, wt, cl, po, co⟩ = [] := boxL_nil.2 h
  rw [boxT, this]
theorem boxT_some {i t c p : Nat} {co : Bool} (h : boxB i t c p = true) : boxT ⟨i, t, c, p, co⟩ = if co then numS i ++ ⟨#[58]⟩ ++ numS t ++ ⟨#[47]⟩ ++ numS c ++ ⟨#[47]⟩ ++ numS p ++ ⟨#[99]⟩ else numS i ++ ⟨#[58]⟩ ++ numS t ++ ⟨#[47]⟩ ++ numS c ++ ⟨#[47]⟩ ++ numS p := by
  have hb : bxB ⟨i, t, c, p, co⟩ = true := h
  rw [boxT, boxL, if_pos hb]
  cases co <;> simp [coreL, coL, numS, ByteArray.mk_append_mk]
theorem numS_three {n : Nat} (h : n ≤ 999) : (numS n).size ≤ 3 := by
  rw [numS_size, ← Lib.decDigits_length]
  exact (dec_len n h).2
theorem held5 {a c : World} {g : Nat} {x y z u v : Value} (hb : Below a.heap.size a c) (hg : g < a.heap.size)
    (h : a.cell? ⟨g, 0, none⟩ = some x ∧ a.cell? ⟨g, 1, none⟩ = some y ∧ a.cell? ⟨g, 2, none⟩ = some z ∧ a.cell? ⟨g, 3, none⟩ = some u ∧ a.cell? ⟨g, 4, none⟩ = some v) :
    c.cell? ⟨g, 0, none⟩ = some x ∧ c.cell? ⟨g, 1, none⟩ = some y ∧ c.cell? ⟨g, 2, none⟩ = some z ∧ c.cell? ⟨g, 3, none⟩ = some u ∧ c.cell? ⟨g, 4, none⟩ = some v :=
  ⟨(hb.cell (p := ⟨g, 0, none⟩) hg).trans h.1, (hb.cell (p := ⟨g, 1, none⟩) hg).trans h.2.1, (hb.cell (p := ⟨g, 2, none⟩) hg).trans h.2.2.1, (hb.cell (p := ⟨g, 3, none⟩) hg).trans h.2.2.2.1, (hb.cell (p := ⟨g, 4, none⟩) hg).trans h.2.2.2.2⟩
/-- the parts of a text, as they are joined -/
structure Parts (i t c p : Nat) (I T C Q k1 k2 k3 k4 k5 k6 : ByteArray) : Prop where
  a1 : ∀ W, (Op.stringOp .add I ⟨#[58]⟩).run Tryd.prog W = .ok (.string k1) W
  a2 : ∀ W, (Op.stringOp .add k1 T).run Tryd.prog W = .ok (.string k2) W
  a3 : ∀ W, (Op.stringOp .add k2 ⟨#[47]⟩).run Tryd.prog W = .ok (.string k3) W
  a4 : ∀ W, (Op.stringOp .add k3 C).run Tryd.prog W = .ok (.string k4) W
  a5 : ∀ W, (Op.stringOp .add k4 ⟨#[47]⟩).run Tryd.prog W = .ok (.string k5) W
  a6 : ∀ W, (Op.stringOp .add k5 Q).run Tryd.prog W = .ok (.string k6) W
  a7 : ∀ W, (Op.stringOp .add k6 ⟨#[99]⟩).run Tryd.prog W = .ok (.string (k6 ++ ⟨#[99]⟩)) W
  eI : numS i = I
  eT : numS t = T
  eC : numS c = C
  eQ : numS p = Q
  e6 : numS i ++ ⟨#[58]⟩ ++ numS t ++ ⟨#[47]⟩ ++ numS c ++ ⟨#[47]⟩ ++ numS p = k6
theorem parts_of {i t c p : Nat} (hi : i ≤ 999) (ht : t ≤ 999) (hc : c ≤ 999) (hp : p ≤ 999) : ∃ I T C Q k1 k2 k3 k4 k5 k6, Parts i t c p I T C Q k1 k2 k3 k4 k5 k6 := by
  have s1 := numS_three hi
  have s2 := numS_three ht
  have s3 := numS_three hc
  have s4 := numS_three hp
  have o : ∀ b : UInt8, (⟨#[b]⟩ : ByteArray).size = 1 := fun _ => rfl
  refine ⟨_, _, _, _, _, _, _, _, _, _, fun W => run_string_add_sum W _ _ ?_, fun W => run_string_add_sum W _ _ ?_, fun W => run_string_add_sum W _ _ ?_, fun W => run_string_add_sum W _ _ ?_, fun W => run_string_add_sum W _ _ ?_, fun W => run_string_add_sum W _ _ ?_, fun W => run_string_add_sum W _ _ ?_, rfl, rfl, rfl, rfl, rfl⟩
  all_goals simp only [ByteArray.size_append, o]; omega
/-- what stands while the parts are joined -/
structure Jn (W : World) (G : Nat) (i t c p : Nat) (I T C Q k1 k2 k3 k4 k5 k6 : ByteArray) (b0 b1 b2 b3 b4 b5 b6 b7 b8 b9 b10 b11 b12 b13 b14 b15 b16 b17 b18 : Bool) (t0 t1 t2 t3 t4 t5 t6 t7 t8 t9 t10 t11 t12 t13 t14 t15 t16 t17 t18 : Value) (w : World) : Prop where
  base : Below W.heap.size W w
  h0 : b0 = true → t0 = .pointer (some ⟨G, 0, none⟩)
  h1 : b1 = true → t1 = .int .i64 (i : Int)
  h2 : b2 = true → t2 = .string I
  h3 : b3 = true → t3 = .string k1
  h4 : b4 = true → t4 = .pointer (some ⟨G, 1, none⟩)
  h5 : b5 = true → t5 = .int .i64 (t : Int)
  h6 : b6 = true → t6 = .string T
  h7 : b7 = true → t7 = .string k2
  h8 : b8 = true → t8 = .string k3
  h9 : b9 = true → t9 = .pointer (some ⟨G, 2, none⟩)
  h10 : b10 = true → t10 = .int .i64 (c : Int)
  h11 : b11 = true → t11 = .string C
  h12 : b12 = true → t12 = .string k4
  h13 : b13 = true → t13 = .string k5
  h14 : b14 = true → t14 = .pointer (some ⟨G, 3, none⟩)
  h15 : b15 = true → t15 = .int .i64 (p : Int)
  h16 : b16 = true → t16 = .string Q
  h17 : b17 = true → t17 = .string k6
  h18 : b18 = true → t18 = .string k6

set_option maxHeartbeats 6400000 in
set_option maxRecDepth 20000 in
theorem specBoxText_any (id wt cl po : Int) (co : Bool) (w : World) :
    Calls Tryd.prog 7 #[.agg #[.int .i64 id, .int .i64 wt, .int .i64 cl, .int .i64 po, .bool co]] w (NumPost w (boxT ⟨id, wt, cl, po, co⟩)) := by
  cases hv : boxB id wt cl po with
  | false =>
    rw [boxT_none hv]
    have Hv := Lib.hid hv
    clear hv
    go_enter Tryd.func7, Tryd.ntmps7
    go_wp2_with (go_at_call 17; refine (specBoxValid_any _ _ _ _ _ _).mono ?_; rintro e w1 ⟨rfl, hb1⟩; rw [Hv.out])
    go_ret
    exact ⟨rfl, (by repeat' (first | with_reducible exact Below.refl _ _ | with_reducible assumption | with_reducible refine bel_step (by with_reducible assumption) ?_ ?_ | with_reducible refine Below.drew ?_ | with_reducible refine below_drewN ?_ _ | with_reducible refine Below.alloc ?_ ?_ _ | with_reducible refine Below.setCell ?_ ?_ _ | (simp; done) | (simp; omega) | omega | with_reducible refine below_le (by with_reducible assumption) ?_))⟩
  | true =>
    obtain ⟨⟨i0, i1⟩, ⟨t0, t1⟩, ⟨c0, c1⟩, p0, p1⟩ := bxB_iff.1 (show bxB ⟨id, wt, cl, po, co⟩ = true from hv)
    obtain ⟨i, rfl⟩ := Int.eq_ofNat_of_zero_le (show 0 ≤ id by simp at i0; omega)
    obtain ⟨t, rfl⟩ := Int.eq_ofNat_of_zero_le (show 0 ≤ wt by simp at t0; omega)
    obtain ⟨c, rfl⟩ := Int.eq_ofNat_of_zero_le (show 0 ≤ cl by simpa using c0)
    obtain ⟨p, rfl⟩ := Int.eq_ofNat_of_zero_le (show 0 ≤ po by simpa using p0)
    simp only at i1 t1 c1 p1
    have hi9 : i ≤ 999 := by omega
    have ht9 : t ≤ 999 := by omega
    have hc9 : c ≤ 999 := by omega
    have hp9 : p ≤ 999 := by omega
    obtain ⟨I, T, C, Q, k1, k2, k3, k4, k5, k6, hP⟩ := parts_of hi9 ht9 hc9 hp9
    have hfin := boxT_some (co := co) hv
    rw [hP.e6] at hfin
    have nI : ∀ W, Calls Tryd.prog 18 #[.int .i64 (i : Int)] W (NumPost W I) := fun W => by rw [← hP.eI]; exact l1Number_any i (by omega) W
    have nT : ∀ W, Calls Tryd.prog 18 #[.int .i64 (t : Int)] W (NumPost W T) := fun W => by rw [← hP.eT]; exact l1Number_any t (by omega) W
    have nC : ∀ W, Calls Tryd.prog 18 #[.int .i64 (c : Int)] W (NumPost W C) := fun W => by rw [← hP.eC]; exact l1Number_any c (by omega) W
    have nQ : ∀ W, Calls Tryd.prog 18 #[.int .i64 (p : Int)] W (NumPost W Q) := fun W => by rw [← hP.eQ]; exact l1Number_any p (by omega) W
    obtain ⟨a1, a2, a3, a4, a5, a6, a7, _, _, _, _, _⟩ := hP
    have Hv := Lib.hid hv
    have Hfin := Lib.hid hfin
    have NI := Lib.hid nI
    have NT := Lib.hid nT
    have NC := Lib.hid nC
    have NQ := Lib.hid nQ
    clear hv hfin nI nT nC nQ i0 i1 t0 t1 c0 c1 p0 p1 hi9 ht9 hc9 hp9
    go_enter Tryd.func7, Tryd.ntmps7
    go_wp2_with (first
      | (go_at_call 17; refine (specBoxValid_any _ _ _ _ _ _).mono ?_; rintro e w1 ⟨rfl, hb1⟩; rw [Hv.out]))
    obtain ⟨p0, p1, p2, p3, p4⟩ := held5 (g := w.heap.size) (x := .int .i64 (i : Int)) (y := .int .i64 (t : Int)) (z := .int .i64 (c : Int)) (u := .int .i64 (p : Int)) (v := .bool co) hb1 (by simp) (by go_simp)
    have y3 : w.heap.size < w1.heap.size := by have := hb1.size; simp at this; omega
    have hbw : Below w.heap.size w w1 := (by repeat' (first | with_reducible exact Below.refl _ _ | with_reducible assumption | with_reducible refine bel_step (by with_reducible assumption) ?_ ?_ | with_reducible refine Below.drew ?_ | with_reducible refine below_drewN ?_ _ | with_reducible refine Below.alloc ?_ ?_ _ | with_reducible refine Below.setCell ?_ ?_ _ | (simp; done) | (simp; omega) | omega | with_reducible refine below_le (by with_reducible assumption) ?_))
    have hsw := hbw.size
    clear hb1
    refine wp_region_any (by kernel_rfl) ?_
    refine wpAny_inv (fun listed a w' => ∃ (b0 b1 b2 b3 b4 b5 b6 b7 b8 b9 b10 b11 b12 b13 b14 b15 b16 b17 b18 : Bool) (t0 t1 t2 t3 t4 t5 t6 t7 t8 t9 t10 t11 t12 t13 t14 t15 t16 t17 t18 : Value), listed = #[b0, b1, b2, b3, b4, b5, b6, b7, b8, b9, b10, b11, b12, b13, b14, b15, b16, b17, b18] ∧ a = {
      tmps := (Value.agg (Value.int IntKind.i64 i :: Value.int IntKind.i64 t :: Value.int IntKind.i64 c :: Value.int IntKind.i64 p :: Value.bool co :: []).toArray :: Value.pointer (some ⟨w.heap.size, 0, none⟩) :: Value.string { data := #[] } :: t18 :: Value.agg (Value.int IntKind.i64 i :: Value.int IntKind.i64 t :: Value.int IntKind.i64 c :: Value.int IntKind.i64 p :: Value.bool co :: []).toArray :: Value.bool true :: Value.bool false :: t0 :: t1 :: t2 :: t3 :: t4 :: t5 :: t6 :: t7 :: t8 :: t9 :: t10 :: t11 :: t12 :: t13 :: t14 :: t15 :: t16 :: t17 :: undef :: undef :: undef :: undef :: undef :: []).toArray,
      defers := [] } ∧ Jn w1 w.heap.size i t c p I T C Q k1 k2 k3 k4 k5 k6 b0 b1 b2 b3 b4 b5 b6 b7 b8 b9 b10 b11 b12 b13 b14 b15 b16 b17 b18 t0 t1 t2 t3 t4 t5 t6 t7 t8 t9 t10 t11 t12 t13 t14 t15 t16 t17 t18 w') ?_ ?_ _ _ _ _ (by decide) ?_
    rotate_left
    · rintro listed a w' q ⟨b0, b1, b2, b3, b4, b5, b6, b7, b8, b9, b10, b11, b12, b13, b14, b15, b16, b17, b18, t0, t1, t2, t3, t4, t5, t6, t7, t8, t9, t10, t11, t12, t13, t14, t15, t16, t17, t18, rfl, rfl, hM⟩ him
      obtain ⟨hj, o, ho, hd⟩ := mem_ready.1 him
      have hlt : q < 19 := (Array.getElem?_eq_some_iff.1 ho).1
      rcases (show q = 0 ∨ q = 1 ∨ q = 2 ∨ q = 3 ∨ q = 4 ∨ q = 5 ∨ q = 6 ∨ q = 7 ∨ q = 8 ∨ q = 9 ∨ q = 10 ∨ q = 11 ∨ q = 12 ∨ q = 13 ∨ q = 14 ∨ q = 15 ∨ q = 16 ∨ q = 17 ∨ q = 18 by omega) with rfl | rfl | rfl | rfl | rfl | rfl | rfl | rfl | rfl | rfl | rfl | rfl | rfl | rfl | rfl | rfl | rfl | rfl | rfl
      all_goals
        obtain rfl := Option.some.inj ho
        simp at hj
        subst hj
        simp [Region.binds] at hd
        refine wpOp_step rfl (fun K hK => ?_)
      · go_simp
        refine hK _ _ ⟨true, b1, b2, b3, b4, b5, b6, b7, b8, b9, b10, b11, b12, b13, b14, b15, b16, b17, b18, _, t1, t2, t3, t4, t5, t6, t7, t8, t9, t10, t11, t12, t13, t14, t15, t16, t17, t18, rfl, rfl, { hM with h0 := fun _ => rfl }⟩
      · obtain rfl := hM.h0 (by first | exact hd | exact hd.1 | exact hd.2 | exact hd.2.1 | simp_all)
        have q0 := (hM.base.cell (p := ⟨w.heap.size, 0, none⟩) y3).trans p0
        go_simp
        refine hK _ _ ⟨b0, true, b2, b3, b4, b5, b6, b7, b8, b9, b10, b11, b12, b13, b14, b15, b16, b17, b18, _, _, t2, t3, t4, t5, t6, t7, t8, t9, t10, t11, t12, t13, t14, t15, t16, t17, t18, rfl, rfl, { hM with h1 := fun _ => rfl }⟩
      · obtain rfl := hM.h1 (by first | exact hd | exact hd.1 | exact hd.2 | exact hd.2.1 | simp_all)
        go_simp
        refine (NI.out _).mono ?_
        rintro e v1 ⟨rfl, hv1⟩
        refine hK _ _ ⟨b0, b1, true, b3, b4, b5, b6, b7, b8, b9, b10, b11, b12, b13, b14, b15, b16, b17, b18, t0, _, _, t3, t4, t5, t6, t7, t8, t9, t10, t11, t12, t13, t14, t15, t16, t17, t18, rfl, rfl, { hM with base := hM.base.trans (hv1.mono hM.base.size), h2 := fun _ => rfl }⟩
      · obtain rfl := hM.h2 (by first | exact hd | exact hd.1 | exact hd.2 | exact hd.2.1 | simp_all)
        go_simp
        refine hK _ _ ⟨b0, b1, b2, true, b4, b5, b6, b7, b8, b9, b10, b11, b12, b13, b14, b15, b16, b17, b18, t0, t1, _, _, t4, t5, t6, t7, t8, t9, t10, t11, t12, t13, t14, t15, t16, t17, t18, rfl, rfl, { hM with h3 := fun _ => rfl }⟩
      · go_simp
        refine hK _ _ ⟨b0, b1, b2, b3, true, b5, b6, b7, b8, b9, b10, b11, b12, b13, b14, b15, b16, b17, b18, t0, t1, t2, t3, _, t5, t6, t7, t8, t9, t10, t11, t12, t13, t14, t15, t16, t17, t18, rfl, rfl, { hM with h4 := fun _ => rfl }⟩
      · obtain rfl := hM.h4 (by first | exact hd | exact hd.1 | exact hd.2 | exact hd.2.1 | simp_all)
        have q0 := (hM.base.cell (p := ⟨w.heap.size, 1, none⟩) y3).trans p1
        go_simp
        refine hK _ _ ⟨b0, b1, b2, b3, b4, true, b6, b7, b8, b9, b10, b11, b12, b13, b14, b15, b16, b17, b18, t0, t1, t2, t3, _, _, t6, t7, t8, t9, t10, t11, t12, t13, t14, t15, t16, t17, t18, rfl, rfl, { hM with h5 := fun _ => rfl }⟩
      · obtain rfl := hM.h5 (by first | exact hd | exact hd.1 | exact hd.2 | exact hd.2.1 | simp_all)
        go_simp
        refine (NT.out _).mono ?_
        rintro e v1 ⟨rfl, hv1⟩
        refine hK _ _ ⟨b0, b1, b2, b3, b4, b5, true, b7, b8, b9, b10, b11, b12, b13, b14, b15, b16, b17, b18, t0, t1, t2, t3, t4, _, _, t7, t8, t9, t10, t11, t12, t13, t14, t15, t16, t17, t18, rfl, rfl, { hM with base := hM.base.trans (hv1.mono hM.base.size), h6 := fun _ => rfl }⟩
      · obtain rfl := hM.h3 (by first | exact hd | exact hd.1 | exact hd.2 | exact hd.2.1 | simp_all)
        obtain rfl := hM.h6 (by first | exact hd | exact hd.1 | exact hd.2 | exact hd.2.1 | simp_all)
        go_simp
        refine hK _ _ ⟨b0, b1, b2, b3, b4, b5, b6, true, b8, b9, b10, b11, b12, b13, b14, b15, b16, b17, b18, t0, t1, t2, _, t4, t5, _, _, t8, t9, t10, t11, t12, t13, t14, t15, t16, t17, t18, rfl, rfl, { hM with h7 := fun _ => rfl }⟩
      · obtain rfl := hM.h7 (by first | exact hd | exact hd.1 | exact hd.2 | exact hd.2.1 | simp_all)
        go_simp
        refine hK _ _ ⟨b0, b1, b2, b3, b4, b5, b6, b7, true, b9, b10, b11, b12, b13, b14, b15, b16, b17, b18, t0, t1, t2, t3, t4, t5, t6, _, _, t9, t10, t11, t12, t13, t14, t15, t16, t17, t18, rfl, rfl, { hM with h8 := fun _ => rfl }⟩
      · go_simp
        refine hK _ _ ⟨b0, b1, b2, b3, b4, b5, b6, b7, b8, true, b10, b11, b12, b13, b14, b15, b16, b17, b18, t0, t1, t2, t3, t4, t5, t6, t7, t8, _, t10, t11, t12, t13, t14, t15, t16, t17, t18, rfl, rfl, { hM with h9 := fun _ => rfl }⟩
      · obtain rfl := hM.h9 (by first | exact hd | exact hd.1 | exact hd.2 | exact hd.2.1 | simp_all)
        have q0 := (hM.base.cell (p := ⟨w.heap.size, 2, none⟩) y3).trans p2
        go_simp
        refine hK _ _ ⟨b0, b1, b2, b3, b4, b5, b6, b7, b8, b9, true, b11, b12, b13, b14, b15, b16, b17, b18, t0, t1, t2, t3, t4, t5, t6, t7, t8, _, _, t11, t12, t13, t14, t15, t16, t17, t18, rfl, rfl, { hM with h10 := fun _ => rfl }⟩
      · obtain rfl := hM.h10 (by first | exact hd | exact hd.1 | exact hd.2 | exact hd.2.1 | simp_all)
        go_simp
        refine (NC.out _).mono ?_
        rintro e v1 ⟨rfl, hv1⟩
        refine hK _ _ ⟨b0, b1, b2, b3, b4, b5, b6, b7, b8, b9, b10, true, b12, b13, b14, b15, b16, b17, b18, t0, t1, t2, t3, t4, t5, t6, t7, t8, t9, _, _, t12, t13, t14, t15, t16, t17, t18, rfl, rfl, { hM with base := hM.base.trans (hv1.mono hM.base.size), h11 := fun _ => rfl }⟩
      · obtain rfl := hM.h8 (by first | exact hd | exact hd.1 | exact hd.2 | exact hd.2.1 | simp_all)
        obtain rfl := hM.h11 (by first | exact hd | exact hd.1 | exact hd.2 | exact hd.2.1 | simp_all)
        go_simp
        refine hK _ _ ⟨b0, b1, b2, b3, b4, b5, b6, b7, b8, b9, b10, b11, true, b13, b14, b15, b16, b17, b18, t0, t1, t2, t3, t4, t5, t6, t7, _, t9, t10, _, _, t13, t14, t15, t16, t17, t18, rfl, rfl, { hM with h12 := fun _ => rfl }⟩
      · obtain rfl := hM.h12 (by first | exact hd | exact hd.1 | exact hd.2 | exact hd.2.1 | simp_all)
        go_simp
        refine hK _ _ ⟨b0, b1, b2, b3, b4, b5, b6, b7, b8, b9, b10, b11, b12, true, b14, b15, b16, b17, b18, t0, t1, t2, t3, t4, t5, t6, t7, t8, t9, t10, t11, _, _, t14, t15, t16, t17, t18, rfl, rfl, { hM with h13 := fun _ => rfl }⟩
      · go_simp
        refine hK _ _ ⟨b0, b1, b2, b3, b4, b5, b6, b7, b8, b9, b10, b11, b12, b13, true, b15, b16, b17, b18, t0, t1, t2, t3, t4, t5, t6, t7, t8, t9, t10, t11, t12, t13, _, t15, t16, t17, t18, rfl, rfl, { hM with h14 := fun _ => rfl }⟩
      · obtain rfl := hM.h14 (by first | exact hd | exact hd.1 | exact hd.2 | exact hd.2.1 | simp_all)
        have q0 := (hM.base.cell (p := ⟨w.heap.size, 3, none⟩) y3).trans p3
        go_simp
        refine hK _ _ ⟨b0, b1, b2, b3, b4, b5, b6, b7, b8, b9, b10, b11, b12, b13, b14, true, b16, b17, b18, t0, t1, t2, t3, t4, t5, t6, t7, t8, t9, t10, t11, t12, t13, _, _, t16, t17, t18, rfl, rfl, { hM with h15 := fun _ => rfl }⟩
      · obtain rfl := hM.h15 (by first | exact hd | exact hd.1 | exact hd.2 | exact hd.2.1 | simp_all)
        go_simp
        refine (NQ.out _).mono ?_
        rintro e v1 ⟨rfl, hv1⟩
        refine hK _ _ ⟨b0, b1, b2, b3, b4, b5, b6, b7, b8, b9, b10, b11, b12, b13, b14, b15, true, b17, b18, t0, t1, t2, t3, t4, t5, t6, t7, t8, t9, t10, t11, t12, t13, t14, _, _, t17, t18, rfl, rfl, { hM with base := hM.base.trans (hv1.mono hM.base.size), h16 := fun _ => rfl }⟩
      · obtain rfl := hM.h13 (by first | exact hd | exact hd.1 | exact hd.2 | exact hd.2.1 | simp_all)
        obtain rfl := hM.h16 (by first | exact hd | exact hd.1 | exact hd.2 | exact hd.2.1 | simp_all)
        go_simp
        refine hK _ _ ⟨b0, b1, b2, b3, b4, b5, b6, b7, b8, b9, b10, b11, b12, b13, b14, b15, b16, true, b18, t0, t1, t2, t3, t4, t5, t6, t7, t8, t9, t10, t11, t12, _, t14, t15, _, _, t18, rfl, rfl, { hM with h17 := fun _ => rfl }⟩
      · obtain rfl := hM.h17 (by first | exact hd | exact hd.1 | exact hd.2 | exact hd.2.1 | simp_all)
        go_simp
        refine hK _ _ ⟨b0, b1, b2, b3, b4, b5, b6, b7, b8, b9, b10, b11, b12, b13, b14, b15, b16, b17, true, t0, t1, t2, t3, t4, t5, t6, t7, t8, t9, t10, t11, t12, t13, t14, t15, t16, _, _, rfl, rfl, { hM with h18 := fun _ => rfl }⟩
    · refine ⟨false, false, false, false, false, false, false, false, false, false, false, false, false, false, false, false, false, false, false, undef, undef, undef, undef, undef, undef, undef, undef, undef, undef, undef, undef, undef, undef, undef, undef, undef, undef, undef, rfl, rfl, ⟨(Below.refl _ _).drew, ?_, ?_, ?_, ?_, ?_, ?_, ?_, ?_, ?_, ?_, ?_, ?_, ?_, ?_, ?_, ?_, ?_, ?_, ?_⟩⟩ <;> exact fun e => absurd e (by decide)
    rintro listed a w' ⟨b0, b1, b2, b3, b4, b5, b6, b7, b8, b9, b10, b11, b12, b13, b14, b15, b16, b17, b18, t0, t1, t2, t3, t4, t5, t6, t7, t8, t9, t10, t11, t12, t13, t14, t15, t16, t17, t18, rfl, rfl, hM⟩ hr
    rw [List.eq_nil_iff_forall_not_mem] at hr
    obtain rfl : b0 = true := by
      cases b0
      · exact (hr 0 (mem_ready.2 ⟨rfl, _, rfl, by simp [Region.binds]⟩)).elim
      · rfl
    obtain rfl : b1 = true := by
      cases b1
      · exact (hr 1 (mem_ready.2 ⟨rfl, _, rfl, by simp [Region.binds]⟩)).elim
      · rfl
    obtain rfl : b2 = true := by
      cases b2
      · exact (hr 2 (mem_ready.2 ⟨rfl, _, rfl, by simp [Region.binds]⟩)).elim
      · rfl
    obtain rfl : b3 = true := by
      cases b3
      · exact (hr 3 (mem_ready.2 ⟨rfl, _, rfl, by simp [Region.binds]⟩)).elim
      · rfl
    obtain rfl : b4 = true := by
      cases b4
      · exact (hr 4 (mem_ready.2 ⟨rfl, _, rfl, by simp [Region.binds]⟩)).elim
      · rfl
    obtain rfl : b5 = true := by
      cases b5
      · exact (hr 5 (mem_ready.2 ⟨rfl, _, rfl, by simp [Region.binds]⟩)).elim
      · rfl
    obtain rfl : b6 = true := by
      cases b6
      · exact (hr 6 (mem_ready.2 ⟨rfl, _, rfl, by simp [Region.binds]⟩)).elim
      · rfl
    obtain rfl : b7 = true := by
      cases b7
      · exact (hr 7 (mem_ready.2 ⟨rfl, _, rfl, by simp [Region.binds]⟩)).elim
      · rfl
    obtain rfl : b8 = true := by
      cases b8
      · exact (hr 8 (mem_ready.2 ⟨rfl, _, rfl, by simp [Region.binds]⟩)).elim
      · rfl
    obtain rfl : b9 = true := by
      cases b9
      · exact (hr 9 (mem_ready.2 ⟨rfl, _, rfl, by simp [Region.binds]⟩)).elim
      · rfl
    obtain rfl : b10 = true := by
      cases b10
      · exact (hr 10 (mem_ready.2 ⟨rfl, _, rfl, by simp [Region.binds]⟩)).elim
      · rfl
    obtain rfl : b11 = true := by
      cases b11
      · exact (hr 11 (mem_ready.2 ⟨rfl, _, rfl, by simp [Region.binds]⟩)).elim
      · rfl
    obtain rfl : b12 = true := by
      cases b12
      · exact (hr 12 (mem_ready.2 ⟨rfl, _, rfl, by simp [Region.binds]⟩)).elim
      · rfl
    obtain rfl : b13 = true := by
      cases b13
      · exact (hr 13 (mem_ready.2 ⟨rfl, _, rfl, by simp [Region.binds]⟩)).elim
      · rfl
    obtain rfl : b14 = true := by
      cases b14
      · exact (hr 14 (mem_ready.2 ⟨rfl, _, rfl, by simp [Region.binds]⟩)).elim
      · rfl
    obtain rfl : b15 = true := by
      cases b15
      · exact (hr 15 (mem_ready.2 ⟨rfl, _, rfl, by simp [Region.binds]⟩)).elim
      · rfl
    obtain rfl : b16 = true := by
      cases b16
      · exact (hr 16 (mem_ready.2 ⟨rfl, _, rfl, by simp [Region.binds]⟩)).elim
      · rfl
    obtain rfl : b17 = true := by
      cases b17
      · exact (hr 17 (mem_ready.2 ⟨rfl, _, rfl, by simp [Region.binds]⟩)).elim
      · rfl
    obtain rfl : b18 = true := by
      cases b18
      · exact (hr 18 (mem_ready.2 ⟨rfl, _, rfl, by simp [Region.binds]⟩)).elim
      · rfl
    clear hr
    obtain rfl := hM.h0 rfl
    obtain rfl := hM.h1 rfl
    obtain rfl := hM.h2 rfl
    obtain rfl := hM.h3 rfl
    obtain rfl := hM.h4 rfl
    obtain rfl := hM.h5 rfl
    obtain rfl := hM.h6 rfl
    obtain rfl := hM.h7 rfl
    obtain rfl := hM.h8 rfl
    obtain rfl := hM.h9 rfl
    obtain rfl := hM.h10 rfl
    obtain rfl := hM.h11 rfl
    obtain rfl := hM.h12 rfl
    obtain rfl := hM.h13 rfl
    obtain rfl := hM.h14 rfl
    obtain rfl := hM.h15 rfl
    obtain rfl := hM.h16 rfl
    obtain rfl := hM.h17 rfl
    obtain rfl := hM.h18 rfl
    have hbm := hM.base
    clear hM
    have q4 := (hbm.cell (p := ⟨w.heap.size, 4, none⟩) y3).trans p4
    have hb9 := hbw.trans (hbm.mono hsw)
    clear p0 p1 p2 p3 hbm
    have hfin := Hfin.out
    cases co with
    | false =>
      rw [if_neg (by decide)] at hfin
      have Hfin2 := Lib.hid hfin
      clear hfin
      go_wp2_with (fail)
      go_ret
      exact ⟨by rw [Hfin2.out]; rfl, hb9⟩
    | true =>
      rw [if_pos rfl] at hfin
      have Hfin2 := Lib.hid hfin
      clear hfin
      go_wp2_with (fail)
      go_ret
      exact ⟨by rw [Hfin2.out]; rfl, hb9⟩

set_option maxHeartbeats 6400000 in
set_option maxRecDepth 20000 in
theorem implBoxText_any (id wt cl po : Int) (co : Bool) (w : World) (hT : Tab w) :
    Calls Tryd.prog 9 #[.agg #[.int .i64 id, .int .i64 wt, .int .i64 cl, .int .i64 po, .bool co]] w (NumPost w (boxT ⟨id, wt, cl, po, co⟩)) := by
  cases hv : boxB id wt cl po with
  | false =>
    rw [boxT_none hv]
    clear hT
    have Hv := Lib.hid hv
    clear hv
    go_enter Tryd.func9, Tryd.ntmps9
    go_wp2_with (go_at_call 14; refine (implBoxValid_any _ _ _ _ _ _).mono ?_; rintro e w1 ⟨rfl, hb1⟩; rw [Hv.out])
    go_ret
    exact ⟨rfl, (by repeat' (first | with_reducible exact Below.refl _ _ | with_reducible assumption | with_reducible refine bel_step (by with_reducible assumption) ?_ ?_ | with_reducible refine Below.drew ?_ | with_reducible refine below_drewN ?_ _ | with_reducible refine Below.alloc ?_ ?_ _ | with_reducible refine Below.setCell ?_ ?_ _ | (simp; done) | (simp; omega) | omega | with_reducible refine below_le (by with_reducible assumption) ?_))⟩
  | true =>
    obtain ⟨⟨i0, i1⟩, ⟨t0, t1⟩, ⟨c0, c1⟩, p0, p1⟩ := bxB_iff.1 (show bxB ⟨id, wt, cl, po, co⟩ = true from hv)
    obtain ⟨i, rfl⟩ := Int.eq_ofNat_of_zero_le (show 0 ≤ id by simp at i0; omega)
    obtain ⟨t, rfl⟩ := Int.eq_ofNat_of_zero_le (show 0 ≤ wt by simp at t0; omega)
    obtain ⟨c, rfl⟩ := Int.eq_ofNat_of_zero_le (show 0 ≤ cl by simpa using c0)
    obtain ⟨p, rfl⟩ := Int.eq_ofNat_of_zero_le (show 0 ≤ po by simpa using p0)
    simp only at i1 t1 c1 p1
    have hi9 : i ≤ 999 := by omega
    have ht9 : t ≤ 999 := by omega
    have hc9 : c ≤ 999 := by omega
    have hp9 : p ≤ 999 := by omega
    obtain ⟨I, T, C, Q, k1, k2, k3, k4, k5, k6, hP⟩ := parts_of hi9 ht9 hc9 hp9
    have hfin := boxT_some (co := co) hv
    rw [hP.e6] at hfin
    have nI : ∀ W, Tab W → Calls Tryd.prog 19 #[.int .i64 (i : Int)] W (NumPost W I) := fun W hW => by rw [← hP.eI]; exact itoa_any i (by omega) W hW
    have nT : ∀ W, Tab W → Calls Tryd.prog 19 #[.int .i64 (t : Int)] W (NumPost W T) := fun W hW => by rw [← hP.eT]; exact itoa_any t (by omega) W hW
    have nC : ∀ W, Tab W → Calls Tryd.prog 19 #[.int .i64 (c : Int)] W (NumPost W C) := fun W hW => by rw [← hP.eC]; exact itoa_any c (by omega) W hW
    have nQ : ∀ W, Tab W → Calls Tryd.prog 19 #[.int .i64 (p : Int)] W (NumPost W Q) := fun W hW => by rw [← hP.eQ]; exact itoa_any p (by omega) W hW
    obtain ⟨a1, a2, a3, a4, a5, a6, a7, _, _, _, _, _⟩ := hP
    have Hv := Lib.hid hv
    have Hfin := Lib.hid hfin
    have NI := Lib.hid nI
    have NT := Lib.hid nT
    have NC := Lib.hid nC
    have NQ := Lib.hid nQ
    clear hv hfin nI nT nC nQ i0 i1 t0 t1 c0 c1 p0 p1 hi9 ht9 hc9 hp9
    have HT := Lib.hid hT
    clear hT
    go_enter Tryd.func9, Tryd.ntmps9
    go_wp2_with (first
      | (go_at_call 14; refine (implBoxValid_any _ _ _ _ _ _).mono ?_; rintro e w1 ⟨rfl, hb1⟩; rw [Hv.out]))
    obtain ⟨p0, p1, p2, p3, p4⟩ := held5 (g := w.heap.size) (x := .int .i64 (i : Int)) (y := .int .i64 (t : Int)) (z := .int .i64 (c : Int)) (u := .int .i64 (p : Int)) (v := .bool co) hb1 (by simp) (by go_simp)
    have y3 : w.heap.size < w1.heap.size := by have := hb1.size; simp at this; omega
    have hbw : Below w.heap.size w w1 := (by repeat' (first | with_reducible exact Below.refl _ _ | with_reducible assumption | with_reducible refine bel_step (by with_reducible assumption) ?_ ?_ | with_reducible refine Below.drew ?_ | with_reducible refine below_drewN ?_ _ | with_reducible refine Below.alloc ?_ ?_ _ | with_reducible refine Below.setCell ?_ ?_ _ | (simp; done) | (simp; omega) | omega | with_reducible refine below_le (by with_reducible assumption) ?_))
    have hsw := hbw.size
    have HTab := Lib.hid (tab_below HT.out hbw)
    clear hb1
    refine wp_region_any (by kernel_rfl) ?_
    refine wpAny_inv (fun listed a w' => ∃ (b0 b1 b2 b3 b4 b5 b6 b7 b8 b9 b10 b11 b12 b13 b14 b15 b16 b17 b18 : Bool) (t0 t1 t2 t3 t4 t5 t6 t7 t8 t9 t10 t11 t12 t13 t14 t15 t16 t17 t18 : Value), listed = #[b0, b1, b2, b3, b4, b5, b6, b7, b8, b9, b10, b11, b12, b13, b14, b15, b16, b17, b18] ∧ a = {
      tmps := (Value.agg (Value.int IntKind.i64 i :: Value.int IntKind.i64 t :: Value.int IntKind.i64 c :: Value.int IntKind.i64 p :: Value.bool co :: []).toArray :: Value.pointer (some ⟨w.heap.size, 0, none⟩) :: Value.string { data := #[] } :: t18 :: Value.agg (Value.int IntKind.i64 i :: Value.int IntKind.i64 t :: Value.int IntKind.i64 c :: Value.int IntKind.i64 p :: Value.bool co :: []).toArray :: Value.bool true :: Value.bool false :: t0 :: t1 :: t2 :: t3 :: t4 :: t5 :: t6 :: t7 :: t8 :: t9 :: t10 :: t11 :: t12 :: t13 :: t14 :: t15 :: t16 :: t17 :: undef :: undef :: undef :: undef :: undef :: []).toArray,
      defers := [] } ∧ Jn w1 w.heap.size i t c p I T C Q k1 k2 k3 k4 k5 k6 b0 b1 b2 b3 b4 b5 b6 b7 b8 b9 b10 b11 b12 b13 b14 b15 b16 b17 b18 t0 t1 t2 t3 t4 t5 t6 t7 t8 t9 t10 t11 t12 t13 t14 t15 t16 t17 t18 w') ?_ ?_ _ _ _ _ (by decide) ?_
    rotate_left
    · rintro listed a w' q ⟨b0, b1, b2, b3, b4, b5, b6, b7, b8, b9, b10, b11, b12, b13, b14, b15, b16, b17, b18, t0, t1, t2, t3, t4, t5, t6, t7, t8, t9, t10, t11, t12, t13, t14, t15, t16, t17, t18, rfl, rfl, hM⟩ him
      obtain ⟨hj, o, ho, hd⟩ := mem_ready.1 him
      have hlt : q < 19 := (Array.getElem?_eq_some_iff.1 ho).1
      rcases (show q = 0 ∨ q = 1 ∨ q = 2 ∨ q = 3 ∨ q = 4 ∨ q = 5 ∨ q = 6 ∨ q = 7 ∨ q = 8 ∨ q = 9 ∨ q = 10 ∨ q = 11 ∨ q = 12 ∨ q = 13 ∨ q = 14 ∨ q = 15 ∨ q = 16 ∨ q = 17 ∨ q = 18 by omega) with rfl | rfl | rfl | rfl | rfl | rfl | rfl | rfl | rfl | rfl | rfl | rfl | rfl | rfl | rfl | rfl | rfl | rfl | rfl
      all_goals
        obtain rfl := Option.some.inj ho
        simp at hj
        subst hj
        simp [Region.binds] at hd
        refine wpOp_step rfl (fun K hK => ?_)
      · go_simp
        refine hK _ _ ⟨true, b1, b2, b3, b4, b5, b6, b7, b8, b9, b10, b11, b12, b13, b14, b15, b16, b17, b18, _, t1, t2, t3, t4, t5, t6, t7, t8, t9, t10, t11, t12, t13, t14, t15, t16, t17, t18, rfl, rfl, { hM with h0 := fun _ => rfl }⟩
      · obtain rfl := hM.h0 (by first | exact hd | exact hd.1 | exact hd.2 | exact hd.2.1 | simp_all)
        have q0 := (hM.base.cell (p := ⟨w.heap.size, 0, none⟩) y3).trans p0
        go_simp
        refine hK _ _ ⟨b0, true, b2, b3, b4, b5, b6, b7, b8, b9, b10, b11, b12, b13, b14, b15, b16, b17, b18, _, _, t2, t3, t4, t5, t6, t7, t8, t9, t10, t11, t12, t13, t14, t15, t16, t17, t18, rfl, rfl, { hM with h1 := fun _ => rfl }⟩
      · obtain rfl := hM.h1 (by first | exact hd | exact hd.1 | exact hd.2 | exact hd.2.1 | simp_all)
        go_simp
        refine (NI.out _ (tab_below HTab.out hM.base)).mono ?_
        rintro e v1 ⟨rfl, hv1⟩
        refine hK _ _ ⟨b0, b1, true, b3, b4, b5, b6, b7, b8, b9, b10, b11, b12, b13, b14, b15, b16, b17, b18, t0, _, _, t3, t4, t5, t6, t7, t8, t9, t10, t11, t12, t13, t14, t15, t16, t17, t18, rfl, rfl, { hM with base := hM.base.trans (hv1.mono hM.base.size), h2 := fun _ => rfl }⟩
      · obtain rfl := hM.h2 (by first | exact hd | exact hd.1 | exact hd.2 | exact hd.2.1 | simp_all)
        go_simp
        refine hK _ _ ⟨b0, b1, b2, true, b4, b5, b6, b7, b8, b9, b10, b11, b12, b13, b14, b15, b16, b17, b18, t0, t1, _, _, t4, t5, t6, t7, t8, t9, t10, t11, t12, t13, t14, t15, t16, t17, t18, rfl, rfl, { hM with h3 := fun _ => rfl }⟩
      · go_simp
        refine hK _ _ ⟨b0, b1, b2, b3, true, b5, b6, b7, b8, b9, b10, b11, b12, b13, b14, b15, b16, b17, b18, t0, t1, t2, t3, _, t5, t6, t7, t8, t9, t10, t11, t12, t13, t14, t15, t16, t17, t18, rfl, rfl, { hM with h4 := fun _ => rfl }⟩
      · obtain rfl := hM.h4 (by first | exact hd | exact hd.1 | exact hd.2 | exact hd.2.1 | simp_all)
        have q0 := (hM.base.cell (p := ⟨w.heap.size, 1, none⟩) y3).trans p1
        go_simp
        refine hK _ _ ⟨b0, b1, b2, b3, b4, true, b6, b7, b8, b9, b10, b11, b12, b13, b14, b15, b16, b17, b18, t0, t1, t2, t3, _, _, t6, t7, t8, t9, t10, t11, t12, t13, t14, t15, t16, t17, t18, rfl, rfl, { hM with h5 := fun _ => rfl }⟩
      · obtain rfl := hM.h5 (by first | exact hd | exact hd.1 | exact hd.2 | exact hd.2.1 | simp_all)
        go_simp
        refine (NT.out _ (tab_below HTab.out hM.base)).mono ?_
        rintro e v1 ⟨rfl, hv1⟩
        refine hK _ _ ⟨b0, b1, b2, b3, b4, b5, true, b7, b8, b9, b10, b11, b12, b13, b14, b15, b16, b17, b18, t0, t1, t2, t3, t4, _, _, t7, t8, t9, t10, t11, t12, t13, t14, t15, t16, t17, t18, rfl, rfl, { hM with base := hM.base.trans (hv1.mono hM.base.size), h6 := fun _ => rfl }⟩
      · obtain rfl := hM.h3 (by first | exact hd | exact hd.1 | exact hd.2 | exact hd.2.1 | simp_all)
        obtain rfl := hM.h6 (by first | exact hd | exact hd.1 | exact hd.2 | exact hd.2.1 | simp_all)
        go_simp
        refine hK _ _ ⟨b0, b1, b2, b3, b4, b5, b6, true, b8, b9, b10, b11, b12, b13, b14, b15, b16, b17, b18, t0, t1, t2, _, t4, t5, _, _, t8, t9, t10, t11, t12, t13, t14, t15, t16, t17, t18, rfl, rfl, { hM with h7 := fun _ => rfl }⟩
      · obtain rfl := hM.h7 (by first | exact hd | exact hd.1 | exact hd.2 | exact hd.2.1 | simp_all)
        go_simp
        refine hK _ _ ⟨b0, b1, b2, b3, b4, b5, b6, b7, true, b9, b10, b11, b12, b13, b14, b15, b16, b17, b18, t0, t1, t2, t3, t4, t5, t6, _, _, t9, t10, t11, t12, t13, t14, t15, t16, t17, t18, rfl, rfl, { hM with h8 := fun _ => rfl }⟩
      · go_simp
        refine hK _ _ ⟨b0, b1, b2, b3, b4, b5, b6, b7, b8, true, b10, b11, b12, b13, b14, b15, b16, b17, b18, t0, t1, t2, t3, t4, t5, t6, t7, t8, _, t10, t11, t12, t13, t14, t15, t16, t17, t18, rfl, rfl, { hM with h9 := fun _ => rfl }⟩
      · obtain rfl := hM.h9 (by first | exact hd | exact hd.1 | exact hd.2 | exact hd.2.1 | simp_all)
        have q0 := (hM.base.cell (p := ⟨w.heap.size, 2, none⟩) y3).trans p2
        go_simp
        refine hK _ _ ⟨b0, b1, b2, b3, b4, b5, b6, b7, b8, b9, true, b11, b12, b13, b14, b15, b16, b17, b18, t0, t1, t2, t3, t4, t5, t6, t7, t8, _, _, t11, t12, t13, t14, t15, t16, t17, t18, rfl, rfl, { hM with h10 := fun _ => rfl }⟩
      · obtain rfl := hM.h10 (by first | exact hd | exact hd.1 | exact hd.2 | exact hd.2.1 | simp_all)
        go_simp
        refine (NC.out _ (tab_below HTab.out hM.base)).mono ?_
        rintro e v1 ⟨rfl, hv1⟩
        refine hK _ _ ⟨b0, b1, b2, b3, b4, b5, b6, b7, b8, b9, b10, true, b12, b13, b14, b15, b16, b17, b18, t0, t1, t2, t3, t4, t5, t6, t7, t8, t9, _, _, t12, t13, t14, t15, t16, t17, t18, rfl, rfl, { hM with base := hM.base.trans (hv1.mono hM.base.size), h11 := fun _ => rfl }⟩
      · obtain rfl := hM.h8 (by first | exact hd | exact hd.1 | exact hd.2 | exact hd.2.1 | simp_all)
        obtain rfl := hM.h11 (by first | exact hd | exact hd.1 | exact hd.2 | exact hd.2.1 | simp_all)
        go_simp
        refine hK _ _ ⟨b0, b1, b2, b3, b4, b5, b6, b7, b8, b9, b10, b11, true, b13, b14, b15, b16, b17, b18, t0, t1, t2, t3, t4, t5, t6, t7, _, t9, t10, _, _, t13, t14, t15, t16, t17, t18, rfl, rfl, { hM with h12 := fun _ => rfl }⟩
      · obtain rfl := hM.h12 (by first | exact hd | exact hd.1 | exact hd.2 | exact hd.2.1 | simp_all)
        go_simp
        refine hK _ _ ⟨b0, b1, b2, b3, b4, b5, b6, b7, b8, b9, b10, b11, b12, true, b14, b15, b16, b17, b18, t0, t1, t2, t3, t4, t5, t6, t7, t8, t9, t10, t11, _, _, t14, t15, t16, t17, t18, rfl, rfl, { hM with h13 := fun _ => rfl }⟩
      · go_simp
        refine hK _ _ ⟨b0, b1, b2, b3, b4, b5, b6, b7, b8, b9, b10, b11, b12, b13, true, b15, b16, b17, b18, t0, t1, t2, t3, t4, t5, t6, t7, t8, t9, t10, t11, t12, t13, _, t15, t16, t17, t18, rfl, rfl, { hM with h14 := fun _ => rfl }⟩
      · obtain rfl := hM.h14 (by first | exact hd | exact hd.1 | exact hd.2 | exact hd.2.1 | simp_all)
        have q0 := (hM.base.cell (p := ⟨w.heap.size, 3, none⟩) y3).trans p3
        go_simp
        refine hK _ _ ⟨b0, b1, b2, b3, b4, b5, b6, b7, b8, b9, b10, b11, b12, b13, b14, true, b16, b17, b18, t0, t1, t2, t3, t4, t5, t6, t7, t8, t9, t10, t11, t12, t13, _, _, t16, t17, t18, rfl, rfl, { hM with h15 := fun _ => rfl }⟩
      · obtain rfl := hM.h15 (by first | exact hd | exact hd.1 | exact hd.2 | exact hd.2.1 | simp_all)
        go_simp
        refine (NQ.out _ (tab_below HTab.out hM.base)).mono ?_
        rintro e v1 ⟨rfl, hv1⟩
        refine hK _ _ ⟨b0, b1, b2, b3, b4, b5, b6, b7, b8, b9, b10, b11, b12, b13, b14, b15, true, b17, b18, t0, t1, t2, t3, t4, t5, t6, t7, t8, t9, t10, t11, t12, t13, t14, _, _, t17, t18, rfl, rfl, { hM with base := hM.base.trans (hv1.mono hM.base.size), h16 := fun _ => rfl }⟩
      · obtain rfl := hM.h13 (by first | exact hd | exact hd.1 | exact hd.2 | exact hd.2.1 | simp_all)
        obtain rfl := hM.h16 (by first | exact hd | exact hd.1 | exact hd.2 | exact hd.2.1 | simp_all)
        go_simp
        refine hK _ _ ⟨b0, b1, b2, b3, b4, b5, b6, b7, b8, b9, b10, b11, b12, b13, b14, b15, b16, true, b18, t0, t1, t2, t3, t4, t5, t6, t7, t8, t9, t10, t11, t12, _, t14, t15, _, _, t18, rfl, rfl, { hM with h17 := fun _ => rfl }⟩
      · obtain rfl := hM.h17 (by first | exact hd | exact hd.1 | exact hd.2 | exact hd.2.1 | simp_all)
        go_simp
        refine hK _ _ ⟨b0, b1, b2, b3, b4, b5, b6, b7, b8, b9, b10, b11, b12, b13, b14, b15, b16, b17, true, t0, t1, t2, t3, t4, t5, t6, t7, t8, t9, t10, t11, t12, t13, t14, t15, t16, _, _, rfl, rfl, { hM with h18 := fun _ => rfl }⟩
    · refine ⟨false, false, false, false, false, false, false, false, false, false, false, false, false, false, false, false, false, false, false, undef, undef, undef, undef, undef, undef, undef, undef, undef, undef, undef, undef, undef, undef, undef, undef, undef, undef, undef, rfl, rfl, ⟨(Below.refl _ _).drew, ?_, ?_, ?_, ?_, ?_, ?_, ?_, ?_, ?_, ?_, ?_, ?_, ?_, ?_, ?_, ?_, ?_, ?_, ?_⟩⟩ <;> exact fun e => absurd e (by decide)
    rintro listed a w' ⟨b0, b1, b2, b3, b4, b5, b6, b7, b8, b9, b10, b11, b12, b13, b14, b15, b16, b17, b18, t0, t1, t2, t3, t4, t5, t6, t7, t8, t9, t10, t11, t12, t13, t14, t15, t16, t17, t18, rfl, rfl, hM⟩ hr
    rw [List.eq_nil_iff_forall_not_mem] at hr
    obtain rfl : b0 = true := by
      cases b0
      · exact (hr 0 (mem_ready.2 ⟨rfl, _, rfl, by simp [Region.binds]⟩)).elim
      · rfl
    obtain rfl : b1 = true := by
      cases b1
      · exact (hr 1 (mem_ready.2 ⟨rfl, _, rfl, by simp [Region.binds]⟩)).elim
      · rfl
    obtain rfl : b2 = true := by
      cases b2
      · exact (hr 2 (mem_ready.2 ⟨rfl, _, rfl, by simp [Region.binds]⟩)).elim
      · rfl
    obtain rfl : b3 = true := by
      cases b3
      · exact (hr 3 (mem_ready.2 ⟨rfl, _, rfl, by simp [Region.binds]⟩)).elim
      · rfl
    obtain rfl : b4 = true := by
      cases b4
      · exact (hr 4 (mem_ready.2 ⟨rfl, _, rfl, by simp [Region.binds]⟩)).elim
      · rfl
    obtain rfl : b5 = true := by
      cases b5
      · exact (hr 5 (mem_ready.2 ⟨rfl, _, rfl, by simp [Region.binds]⟩)).elim
      · rfl
    obtain rfl : b6 = true := by
      cases b6
      · exact (hr 6 (mem_ready.2 ⟨rfl, _, rfl, by simp [Region.binds]⟩)).elim
      · rfl
    obtain rfl : b7 = true := by
      cases b7
      · exact (hr 7 (mem_ready.2 ⟨rfl, _, rfl, by simp [Region.binds]⟩)).elim
      · rfl
    obtain rfl : b8 = true := by
      cases b8
      · exact (hr 8 (mem_ready.2 ⟨rfl, _, rfl, by simp [Region.binds]⟩)).elim
      · rfl
    obtain rfl : b9 = true := by
      cases b9
      · exact (hr 9 (mem_ready.2 ⟨rfl, _, rfl, by simp [Region.binds]⟩)).elim
      · rfl
    obtain rfl : b10 = true := by
      cases b10
      · exact (hr 10 (mem_ready.2 ⟨rfl, _, rfl, by simp [Region.binds]⟩)).elim
      · rfl
    obtain rfl : b11 = true := by
      cases b11
      · exact (hr 11 (mem_ready.2 ⟨rfl, _, rfl, by simp [Region.binds]⟩)).elim
      · rfl
    obtain rfl : b12 = true := by
      cases b12
      · exact (hr 12 (mem_ready.2 ⟨rfl, _, rfl, by simp [Region.binds]⟩)).elim
      · rfl
    obtain rfl : b13 = true := by
      cases b13
      · exact (hr 13 (mem_ready.2 ⟨rfl, _, rfl, by simp [Region.binds]⟩)).elim
      · rfl
    obtain rfl : b14 = true := by
      cases b14
      · exact (hr 14 (mem_ready.2 ⟨rfl, _, rfl, by simp [Region.binds]⟩)).elim
      · rfl
    obtain rfl : b15 = true := by
      cases b15
      · exact (hr 15 (mem_ready.2 ⟨rfl, _, rfl, by simp [Region.binds]⟩)).elim
      · rfl
    obtain rfl : b16 = true := by
      cases b16
      · exact (hr 16 (mem_ready.2 ⟨rfl, _, rfl, by simp [Region.binds]⟩)).elim
      · rfl
    obtain rfl : b17 = true := by
      cases b17
      · exact (hr 17 (mem_ready.2 ⟨rfl, _, rfl, by simp [Region.binds]⟩)).elim
      · rfl
    obtain rfl : b18 = true := by
      cases b18
      · exact (hr 18 (mem_ready.2 ⟨rfl, _, rfl, by simp [Region.binds]⟩)).elim
      · rfl
    clear hr
    obtain rfl := hM.h0 rfl
    obtain rfl := hM.h1 rfl
    obtain rfl := hM.h2 rfl
    obtain rfl := hM.h3 rfl
    obtain rfl := hM.h4 rfl
    obtain rfl := hM.h5 rfl
    obtain rfl := hM.h6 rfl
    obtain rfl := hM.h7 rfl
    obtain rfl := hM.h8 rfl
    obtain rfl := hM.h9 rfl
    obtain rfl := hM.h10 rfl
    obtain rfl := hM.h11 rfl
    obtain rfl := hM.h12 rfl
    obtain rfl := hM.h13 rfl
    obtain rfl := hM.h14 rfl
    obtain rfl := hM.h15 rfl
    obtain rfl := hM.h16 rfl
    obtain rfl := hM.h17 rfl
    obtain rfl := hM.h18 rfl
    have hbm := hM.base
    clear hM
    have q4 := (hbm.cell (p := ⟨w.heap.size, 4, none⟩) y3).trans p4
    have hb9 := hbw.trans (hbm.mono hsw)
    clear p0 p1 p2 p3 hbm
    have hfin := Hfin.out
    cases co with
    | false =>
      rw [if_neg (by decide)] at hfin
      have Hfin2 := Lib.hid hfin
      clear hfin
      go_wp2_with (fail)
      go_ret
      exact ⟨by rw [Hfin2.out]; rfl, hb9⟩
    | true =>
      rw [if_pos rfl] at hfin
      have Hfin2 := Lib.hid hfin
      clear hfin
      go_wp2_with (fail)
      go_ret
      exact ⟨by rw [Hfin2.out]; rfl, hb9⟩
end Go.Proofs.YtbhmbmfhbeocoaaDoor
