/- spec.l4Sorted, spec.YardIds. Conditions: that the slices read as lists. -/
import Derived.Test.YteghialkkhmggaaYardF
import Derived.Test.YteghialkkhmggaaApp2
namespace Go.Proofs.Yteghialkkhmggaa
open Go.RowKit
set_option linter.unusedVariables false

/-- a list with a number at its place -/
def insS : List Int → Int → List Int
  | [], n => [n]
  | x :: l, n => if x < n then x :: insS l n else n :: x :: l
theorem insS_at (xs : List Int) (n : Int) (k : Nat) (hk : k ≤ xs.length) (h : ∀ j, j < k → xs.getD j 0 < n) (he : k < xs.length → ¬ xs.getD k 0 < n) : insS xs n = xs.take k ++ [n] ++ xs.drop k := by
  induction xs generalizing k with
  | nil =>
    obtain rfl : k = 0 := by simpa using hk
    rfl
  | cons x l ih =>
    cases k with
    | zero =>
      have h0 : ¬ x < n := he (by simp)
      simp [insS, h0]
    | succ k =>
      have h0 : x < n := h 0 (by omega)
      have := ih k (by simpa using hk) (fun j hj => h (j + 1) (by omega)) (fun hl => he (by simpa using hl))
      simp [insS, h0, this]
theorem insS_length (xs : List Int) (n : Int) : (insS xs n).length = xs.length + 1 := by
  induction xs with
  | nil => rfl
  | cons x l ih => simp only [insS]; split <;> simp [ih]
theorem Ints.zero (w : World) (a : Addr) (c : Nat) (hc : c ≤ maxLen) : Ints w (some a) 0 c [] := ⟨Nat.zero_le _, hc, rfl, (fun e => by cases e), fun h => absurd h (by omega)⟩
theorem Ints.drop {w : World} {b off n c : Nat} {xs : List Int} (h : Ints w (some ⟨b, off, none⟩) n c xs) {k : Nat} (hk : k ≤ n) : Ints w (some ⟨b, off + k, none⟩) (n - k) (c - k) (xs.drop k) := by
  obtain ⟨h1, h2, h3, h4, h5⟩ := h
  refine ⟨by omega, by omega, by rw [List.length_drop]; omega, (fun e => by cases e), fun hn => ?_⟩
  obtain ⟨b', off', e, hlt, hc⟩ := h5 (by omega)
  injection e with e
  injection e with e1 e2 e3
  subst e1 e2
  refine ⟨b, off + k, rfl, hlt, fun j hj => ?_⟩
  have := hc (k + j) (by omega)
  rw [show off + (k + j) = off + k + j by omega] at this
  simpa [List.getD] using this
/-- append of a slice that reads as a list, nil too, at an operation of a region that draws its order -/
theorem step_append_any {ops : Array Oper} {o : Oper} {a : Act} {w : World} {K : Act → World → Prop} {Q : Exit → Act → World → Prop} {E : Prop} (hw : Region.wanted o (yielded ops a.tmps) = true) (s x : Operand)
    (ho : o.op = .call { callee := .builtin .append, args := #[s, x], argTypes := #[33, 33] })
    (B : Nat) (v : Value) (n : Nat) (xs : List Int) (hs : a.eval s = v) (hown : RowI w B v n xs)
    (A : Option Addr) (m c : Nat) (ys : List Int) (hx : a.eval x = .slice A m c) (hr : Ints w A m c ys) (hnm : n + m ≤ 1000000000) (hB : B ≤ w.heap.size)
    (h : ∀ v' w', RowI w' B v' (n + m) (xs ++ ys) → w.grownBy w' v.ownBlock → K (a.put o.dst v') w') : if Region.wanted o (yielded ops a.tmps) = true then Oper.wp Try.prog o a w K Q else E := by
  rw [if_pos hw]
  obtain ⟨i0, hi, hz0, hz1, hz2⟩ := info_parts int_info
  cases A with
  | none =>
    have hc : c = 0 := hr.2.2.2.1 rfl
    have hm : m = 0 := by have := hr.1; omega
    subst hc hm
    have hy : ys = [] := List.eq_nil_of_length_eq_zero hr.length
    subst hy
    have hrun := run_append_owned_none (P := Try.prog) (w := w) B 33 o.type 3 i0 1 Try.underlying33 hi v n (cellsI xs) hown
    unfold Oper.wp
    simp [execOp, ho, resolve, invoke, builtin, hs, hx, hrun, Result.andThen]
    exact h v w (by simpa using hown) (World.grownBy.refl w _)
  | some ad =>
    refine wp_append_own w s x 33 ho B 3 i0 (.int .i64 0) 1 8 Try.underlying33 hi hz0 hz1 hz2 rfl (by omega) v n (cellsI xs) hs hown ad m c (cellsI ys) hx (by simp [cellsI, hr.length]) ?_ (cellsI_one ys) (by unfold maxLen; omega) (by omega) hB ?_
    · intro j u hu
      have hj : j < m := by
        have := (List.getElem?_eq_some_iff.1 hu).1
        simpa [cellsI, hr.length] using this
      obtain ⟨b, off, e, _, hc⟩ := hr.at_ hj
      injection e with e
      subst e
      have ea : (⟨b, off, none⟩ : Addr).add j = ⟨b, off + j, none⟩ := by
        unfold Addr.add
        by_cases h0 : j = 0
        · subst h0; simp
        · simp [h0]
      rw [ea, hc, ← hu]
      simp [cellsI, List.getElem?_map, List.getD, List.getElem?_eq_getElem (show j < ys.length by rw [hr.length]; exact hj)]
    · intro v' w' h1 h2 _
      exact h v' w' (by rw [RowI, cellsI_append]; exact h1) h2

def SortedPost (w : World) (n : Nat) (xs : List Int) (e : Ending) (w' : World) : Prop :=
  ∃ v : Value, e = .returned v ∧ RowI w' w.heap.size v n xs ∧ Below w.heap.size w w'

set_option maxHeartbeats 1600000 in
theorem l4Sorted_any (A : Option Addr) (n c : Nat) (xs : List Int) (x : Int) (w : World) (h : Ints w A n c xs) (hn : n ≤ 1048576) :
    Calls Try.prog 47 #[.slice A n c, .int .i64 x] w (SortedPost w (n + 1) (insS xs x)) := by
  have hlen := h.len
  have hnc : (n : Int) ≤ c := by have := h.1; omega
  have Hl := Lib.hid h.length
  have H := Lib.hid h
  clear h
  have hrow0 := empty_row (Nat.le_refl w.heap.size)
  have hb0 : Below w.heap.size w (w.alloc (.cells #[] 3)) := (Below.refl _ _).alloc (Nat.le_refl _) _
  go_enter Try.func47, Try.ntmps47
  go_wp2_with (fail)
  go_loopw [5, 6] (fun v i wr => ∃ k : Nat, k ≤ n ∧ i = .int .i64 k ∧ RowI wr w.heap.size v k (xs.take k) ∧ (∀ j, j < k → xs.getD j 0 < x) ∧ Below w.heap.size w wr) (fun _ i _ => n - (intOf i).toNat)
  case atStart => exact ⟨0, by omega, rfl, by simpa using hrow0, (fun j hj => absurd hj (by omega)), hb0⟩
  case round =>
    clear hrow0 hb0
    obtain ⟨k, hk, rfl, hrow, hall, hbr⟩ := hrel
    have hsr := hbr.size
    have Hall := Lib.hid hall
    clear hall
    by_cases hlt : k < n
    · have hlt' : (k : Int) < n := by omega
      have hk0 : (0 : Int) ≤ k := by omega
      obtain ⟨b, off, hA, hb, hc0⟩ := H.out.at_ hlt
      subst hA
      have hc := (hbr.cell (p := ⟨b, off + k, none⟩) hb).trans hc0
      obtain ⟨u, hu⟩ : ∃ u, xs.getD k 0 = u := ⟨_, rfl⟩
      rw [hu] at hc
      have hsu : xs.take (k + 1) = xs.take k ++ [u] := by
        rw [List.take_succ_eq_append_getElem (by rw [Hl.out]; exact hlt), ← hu]
        simp [List.getD, show k < xs.length by rw [Hl.out]; exact hlt]
      by_cases hux : u < x
      · have hall2 : ∀ j, j < k + 1 → xs.getD j 0 < x := by
          intro j hj
          by_cases e : j = k
          · rw [e, hu]; exact hux
          · exact Hall.out j (by omega)
        have Hall2 := Lib.hid hall2
        have Hsu := Lib.hid hsu
        clear hall2 hsu hu hc0
        go_wp2_with (first
          | (at_builtin; refine wpList_append_ints rfl _ _ rfl w.heap.size _ k (xs.take k) rfl (hrow.alloc _) (some ⟨wr.heap.size, 0, none⟩) 1 1 [u] rfl (one_ints _ _) (by omega) (le_alloc hsr _) ?_; intro v3 w3 hr3 hg3
             rw [← Hsu.out] at hr3
             have hb3 := below_append (hbr.alloc hsr _) (hrow.alloc _) hg3 (le_alloc hsr _)
             clear hg3))
        exact ⟨⟨k + 1, by omega, by go_num, hr3, Hall2.out, hb3⟩, by simp [intOf]; omega⟩
      · have hfin := insS_at xs x k (by rw [Hl.out]; omega) Hall.out (fun _ => by rw [hu]; exact hux)
        have hdrop := H.out.drop (k := k) (by omega)
        have Hfin := Lib.hid hfin
        have hkn : (k : Int) ≤ n := by omega
        have hck : ¬ c = k := by omega
        clear hfin hsu hu hc0
        have hdd : Ints w (some ⟨b, off + k, none⟩) (n - k) (c - k) (xs.drop k) := hdrop
        have hbd : Below w.heap.size w wr.drew := hbr.drew
        have hsd : w.heap.size ≤ wr.drew.heap.size := hsr
        have hrowd : RowI wr.drew w.heap.size _ k (xs.take k) := hrow
        have Hdd := Lib.hid hdd
        have Hrd := Lib.hid hrowd
        clear hdd hrowd hrow
        go_wp2_with (fail)
        go_region_held3 (fun _ => True) (exact trivial)
          (first
            | (refine step_append_any rfl _ _ rfl w.heap.size v3 (k + 1) (xs.take k ++ [x]) rfl hr3 (some ⟨b, off + k, none⟩) (n - k) (c - k) (xs.drop k) rfl hI3 (by omega) hs3 ?_
               intro v4 w4 hr4 hg4
               have hb4 := below_append hb3 hr3 hg4 hs3)
            | (refine step_append_any rfl _ _ rfl w.heap.size _ k (xs.take k) rfl (Hrd.out.alloc _) (some ⟨wr.heap.size, 0, none⟩) 1 1 [x] rfl (one_ints wr.drew x) (by omega) (le_alloc hsd _) ?_
               intro v3 w3 hr3 hg3
               have hb3 := below_append (hbd.alloc hsd _) (Hrd.out.alloc _) hg3 (le_alloc hsd _)
               have hs3 := hb3.size
               have hI3 := Hdd.out.below hb3))
        go_wp2_with (fail)
        go_ret
        exact ⟨_, rfl, by rw [Hfin.out, show n + 1 = k + 1 + (n - k) by omega]; exact hr4, hb4⟩
    · obtain rfl : k = n := by omega
      have hfin := insS_at xs x k (by rw [Hl.out]; omega) Hall.out (fun h => absurd h (by rw [Hl.out]; omega))
      have hdr : xs.drop k = [] := List.drop_eq_nil_of_le (by rw [Hl.out]; omega)
      rw [hdr] at hfin
      have Hfin := Lib.hid hfin
      clear hfin hdr
      cases A with
      | none =>
        have hc0 : c = 0 := H.out.2.2.2.1 rfl
        have hk0 : k = 0 := by omega
        subst hc0 hk0
        have hdd : Ints w none (0) (0) ([]) := Ints.nil w
        have hbd : Below w.heap.size w wr.drew := hbr.drew
        have hsd : w.heap.size ≤ wr.drew.heap.size := hsr
        have hrowd : RowI wr.drew w.heap.size _ 0 (xs.take 0) := hrow
        have Hdd := Lib.hid hdd
        have Hrd := Lib.hid hrowd
        clear hdd hrowd hrow
        go_wp2_with (fail)
        go_region_held3 (fun _ => True) (exact trivial)
          (first
            | (refine step_append_any rfl _ _ rfl w.heap.size v3 (0 + 1) (xs.take 0 ++ [x]) rfl hr3 none (0) (0) ([]) rfl hI3 (by omega) hs3 ?_
               intro v4 w4 hr4 hg4
               have hb4 := below_append hb3 hr3 hg4 hs3)
            | (refine step_append_any rfl _ _ rfl w.heap.size _ 0 (xs.take 0) rfl (Hrd.out.alloc _) (some ⟨wr.heap.size, 0, none⟩) 1 1 [x] rfl (one_ints wr.drew x) (by omega) (le_alloc hsd _) ?_
               intro v3 w3 hr3 hg3
               have hb3 := below_append (hbd.alloc hsd _) (Hrd.out.alloc _) hg3 (le_alloc hsd _)
               have hs3 := hb3.size
               have hI3 := Hdd.out.below hb3))
        go_wp2_with (fail)
        go_ret
        exact ⟨_, rfl, by rw [Hfin.out]; exact hr4, hb4⟩
      | some p =>
        have hcm := H.out.2.1
        by_cases hk0 : k = 0
        · subst hk0
          have hdd : Ints w (some p) (0) (c) ([]) := Ints.zero w p c hcm
          have hbd : Below w.heap.size w wr.drew := hbr.drew
          have hsd : w.heap.size ≤ wr.drew.heap.size := hsr
          have hrowd : RowI wr.drew w.heap.size _ 0 (xs.take 0) := hrow
          have Hdd := Lib.hid hdd
          have Hrd := Lib.hid hrowd
          clear hdd hrowd hrow
          go_wp2_with (fail)
          go_region_held3 (fun _ => True) (exact trivial)
            (first
              | (refine step_append_any rfl _ _ rfl w.heap.size v3 (0 + 1) (xs.take 0 ++ [x]) rfl hr3 (some p) (0) (c) ([]) rfl hI3 (by omega) hs3 ?_
                 intro v4 w4 hr4 hg4
                 have hb4 := below_append hb3 hr3 hg4 hs3)
              | (refine step_append_any rfl _ _ rfl w.heap.size _ 0 (xs.take 0) rfl (Hrd.out.alloc _) (some ⟨wr.heap.size, 0, none⟩) 1 1 [x] rfl (one_ints wr.drew x) (by omega) (le_alloc hsd _) ?_
                 intro v3 w3 hr3 hg3
                 have hb3 := below_append (hbd.alloc hsd _) (Hrd.out.alloc _) hg3 (le_alloc hsd _)
                 have hs3 := hb3.size
                 have hI3 := Hdd.out.below hb3))
          go_wp2_with (fail)
          go_ret
          exact ⟨_, rfl, by rw [Hfin.out]; exact hr4, hb4⟩
        · obtain ⟨b, off, e, hb, _⟩ := H.out.at_ (show 0 < k by omega)
          injection e with e
          subst e
          by_cases hck : c = k
          · subst hck
            have hdd : Ints w (some ⟨b, off, none⟩) (0) (0) ([]) := Ints.zero w _ 0 (by omega)
            have hbd : Below w.heap.size w wr.drew := hbr.drew
            have hsd : w.heap.size ≤ wr.drew.heap.size := hsr
            have hrowd : RowI wr.drew w.heap.size _ c (xs.take c) := hrow
            have Hdd := Lib.hid hdd
            have Hrd := Lib.hid hrowd
            clear hdd hrowd hrow
            go_wp2_with (fail)
            go_region_held3 (fun _ => True) (exact trivial)
              (first
                | (refine step_append_any rfl _ _ rfl w.heap.size v3 (c + 1) (xs.take c ++ [x]) rfl hr3 (some ⟨b, off, none⟩) (0) (0) ([]) rfl hI3 (by omega) hs3 ?_
                   intro v4 w4 hr4 hg4
                   have hb4 := below_append hb3 hr3 hg4 hs3)
                | (refine step_append_any rfl _ _ rfl w.heap.size _ c (xs.take c) rfl (Hrd.out.alloc _) (some ⟨wr.heap.size, 0, none⟩) 1 1 [x] rfl (one_ints wr.drew x) (by omega) (le_alloc hsd _) ?_
                   intro v3 w3 hr3 hg3
                   have hb3 := below_append (hbd.alloc hsd _) (Hrd.out.alloc _) hg3 (le_alloc hsd _)
                   have hs3 := hb3.size
                   have hI3 := Hdd.out.below hb3))
            go_wp2_with (fail)
            go_ret
            exact ⟨_, rfl, by rw [Hfin.out]; exact hr4, hb4⟩
          · have hck' : (k : Int) < c := by omega
            have hdd : Ints w (some ⟨b, off + k, none⟩) (0) (c - k) ([]) := Ints.zero w _ (c - k) (by omega)
            have hbd : Below w.heap.size w wr.drew := hbr.drew
            have hsd : w.heap.size ≤ wr.drew.heap.size := hsr
            have hrowd : RowI wr.drew w.heap.size _ k (xs.take k) := hrow
            have Hdd := Lib.hid hdd
            have Hrd := Lib.hid hrowd
            clear hdd hrowd hrow
            go_wp2_with (fail)
            go_region_held3 (fun _ => True) (exact trivial)
              (first
                | (refine step_append_any rfl _ _ rfl w.heap.size v3 (k + 1) (xs.take k ++ [x]) rfl hr3 (some ⟨b, off + k, none⟩) (0) (c - k) ([]) rfl hI3 (by omega) hs3 ?_
                   intro v4 w4 hr4 hg4
                   have hb4 := below_append hb3 hr3 hg4 hs3)
                | (refine step_append_any rfl _ _ rfl w.heap.size _ k (xs.take k) rfl (Hrd.out.alloc _) (some ⟨wr.heap.size, 0, none⟩) 1 1 [x] rfl (one_ints wr.drew x) (by omega) (le_alloc hsd _) ?_
                   intro v3 w3 hr3 hg3
                   have hb3 := below_append (hbd.alloc hsd _) (Hrd.out.alloc _) hg3 (le_alloc hsd _)
                   have hs3 := hb3.size
                   have hI3 := Hdd.out.below hb3))
            go_wp2_with (fail)
            go_ret
            exact ⟨_, rfl, by rw [Hfin.out]; exact hr4, hb4⟩

def sortL (xs : List Int) : List Int := xs.foldl insS []
theorem foldl_len (xs acc : List Int) : (xs.foldl insS acc).length = acc.length + xs.length := by
  induction xs generalizing acc with
  | nil => simp
  | cons x l ih => rw [List.foldl_cons, ih, insS_length, List.length_cons]; omega
theorem sortL_length (xs : List Int) : (sortL xs).length = xs.length := by rw [sortL, foldl_len]; simp
theorem sortL_more (xs : List Int) (x : Int) : sortL (xs ++ [x]) = insS (sortL xs) x := by simp [sortL]
def idsV (hi : Int) (sss : List (List Int)) : List Int := if yardB hi sss then sortL sss.flatten else []
theorem yard_five {hi : Int} {sss : List (List Int)} (h : yardB hi sss = true) : sss.length ≤ 5 ∧ ∀ k, k < sss.length → (sss.getD k []).length ≤ 5 := by
  simp only [yardB, Bool.and_eq_true, List.all_eq_true] at h
  have h1 := inR_iff.1 h.1.1
  refine ⟨by omega, fun k hk => ?_⟩
  exact (stackB_high (h.1.2 (sss.getD k []) (by rw [List.getD, List.getElem?_eq_getElem hk]; exact List.getElem_mem _))).2

set_option maxHeartbeats 1600000 in
theorem specYardIds_any (hi : Int) (A : Option Addr) (n c : Nat) (sss : List (List Int)) (w : World) (h : IsStk w A n c sss) (hn : n ≤ 1048576) :
    Calls Try.prog 19 #[.agg #[.int .i64 hi, .slice A n c]] w (SortedPost w (idsV hi sss).length (idsV hi sss)) := by
  have Hl := Lib.hid h.length
  have H := Lib.hid h
  clear h
  have hy0 : Yd ((w.alloc (.cells #[.int .i64 hi, .slice A n c] 27)).alloc (.cells #[] 3)) w.heap.size hi A n c := Yd.below (w := w.alloc _) ⟨by simp, by go_simp, by go_simp⟩ ((Below.refl _ _).alloc (Nat.le_refl _) _)
  have hr0 : RowI ((w.alloc (.cells #[.int .i64 hi, .slice A n c] 27)).alloc (.cells #[] 3)) (w.heap.size + 1) (.slice (some ⟨w.heap.size + 1, 0, none⟩) 0 0) 0 [] := empty_row2 (w.heap.size + 1) (by simp) (by simp)
  have hb0 : Below w.heap.size w ((w.alloc (.cells #[.int .i64 hi, .slice A n c] 27)).alloc (.cells #[] 3)) := ((Below.refl _ _).alloc (Nat.le_refl _) _).alloc (by simp) _
  cases hv : yardB hi sss with
  | false =>
    have hfin : idsV hi sss = [] := by simp [idsV, hv]
    rw [hfin]
    go_enter Try.func19, Try.ntmps19
    go_wp2_with (fail)
    refine (specYardValid_any _ _ _ _ _ _ ((H.out.alloc _).alloc _) hn).mono ?_
    rintro e w1 ⟨rfl, hb1⟩
    rw [hv]
    have hb2 := hb0.trans (hb1.mono hb0.size)
    have hr1 := below_row hr0 hb1
    go_wp2_with (fail)
    go_ret
    exact ⟨_, rfl, hr1.less (Nat.le_succ _), hb2⟩
  | true =>
    have hfin : idsV hi sss = sortL sss.flatten := by simp [idsV, hv]
    rw [hfin]
    obtain ⟨hs5, hk5⟩ := yard_five hv
    rw [Hl.out] at hs5 hk5
    have Hk5 := Lib.hid hk5
    clear hk5 hfin
    go_enter Try.func19, Try.ntmps19
    go_wp2_with (fail)
    refine (specYardValid_any _ _ _ _ _ _ ((H.out.alloc _).alloc _) hn).mono ?_
    rintro e w1 ⟨rfl, hb1⟩
    rw [hv]
    have hb2 := hb0.trans (hb1.mono hb0.size)
    have hr1 := below_row hr0 hb1
    have hy1 := hy0.below hb1
    clear hr0 hy0 hb0 hb1
    obtain ⟨y3, p0, p1⟩ := id hy1
    go_wp2_with (fail)
    go_loopw [3, 4] (fun v i wr => ∃ (k m : Nat), k ≤ n ∧ i = .int .i64 k ∧ RowI wr (w.heap.size + 1) v m (sortL (upTo sss k 0)) ∧ m ≤ 5 * k ∧ Yd wr w.heap.size hi A n c ∧ Below w.heap.size w wr) (fun _ i _ => n - (intOf i).toNat)
    case atStart => exact ⟨0, 0, by omega, rfl, by rw [upTo_zero]; exact hr1, by omega, hy1, hb2⟩
    case round =>
      clear hr1 hy1 hb2 p0 p1 y3
      obtain ⟨k, m, hk, rfl, hrow, hm, hyd, hbr⟩ := hrel
      have hsr := hbr.size
      have Hrow := Lib.hid hrow
      have Hyd := Lib.hid hyd
      obtain ⟨y3, p0, p1⟩ := id hyd
      clear hrow hyd
      by_cases hlt : k < n
      · have hlt' : (k : Int) < n := by omega
        have hk0 : (0 : Int) ≤ k := by omega
        have hkx : k < sss.length := by rw [Hl.out]; exact hlt
        obtain ⟨b, off, Ai, ni, ci, hA, hb, hc0, hz⟩ := H.out.at_ hlt
        subst hA
        have hc := (hbr.cell (p := ⟨b, off + k, none⟩) hb).trans hc0
        have hzl := hz.length
        have hni := Hk5.out k hlt
        rw [hzl] at hni
        have hup := upTo_next hkx
        have husu := fun j hj => @upTo_succ sss k j hj
        obtain ⟨ys, hys⟩ : ∃ ys, sss.getD k [] = ys := ⟨_, rfl⟩
        rw [hys] at hzl hup husu hz
        have Hz := Lib.hid hz
        have Hzl := Lib.hid hzl
        have Hup := Lib.hid hup
        have Husu := Lib.hid husu
        have Hc0 := Lib.hid hc0
        clear hz hzl hup husu hys hc0
        go_wp2_with (fail)
        have hrow := Hrow.out
        have hyd := Hyd.out
        go_loopw [3, 5] (fun v q wi => ∃ (j m' : Nat), j ≤ ni ∧ q = .int .i64 j ∧ RowI wi (w.heap.size + 1) v m' (sortL (upTo sss k j)) ∧ m' ≤ 5 * k + j ∧ Yd wi w.heap.size hi (some ⟨b, off, none⟩) n c ∧ Below w.heap.size w wi) (fun _ q _ => ni - (intOf q).toNat)
        case atStart => exact ⟨0, m, by omega, rfl, hrow, by omega, hyd, hbr⟩
        case round =>
          clear hrow hyd hbr hsr hc p0 p1 y3
          obtain ⟨j, m', hj, rfl, hrow, hm', hyd, hbi⟩ := hrel
          have hsi := hbi.size
          obtain ⟨A5, c5, rfl, ho5⟩ := hrow.own
          have HI5 := Lib.hid ho5.ints
          have Hrow2 := Lib.hid hrow
          have Hyd2 := Lib.hid hyd
          obtain ⟨y3, p0, p1⟩ := id hyd
          clear hrow hyd ho5
          have hc := (hbi.cell (p := ⟨b, off + k, none⟩) hb).trans Hc0.out
          by_cases hjl : j < ni
          · have hjl' : (j : Int) < ni := by omega
            have hj0 : (0 : Int) ≤ j := by omega
            obtain ⟨b2, off2, hA2, hb2, hd⟩ := Hz.out.at_ hjl
            subst hA2
            have hd1 := (hbi.cell (p := ⟨b2, off2 + j, none⟩) hb2).trans hd
            have hsu := Husu.out j (by rw [Hzl.out]; exact hjl)
            obtain ⟨u, hu⟩ : ∃ u, ys.getD j 0 = u := ⟨_, rfl⟩
            rw [hu] at hd1 hsu
            have hso := sortL_more (upTo sss k j) u
            rw [← hsu] at hso
            have Hso := Lib.hid hso
            clear hsu hso hu hd
            go_wp2_with (first
              | (go_at_call 47; refine (l4Sorted_any _ _ _ _ _ _ HI5.out (by omega)).mono ?_; rintro e w6 ⟨v6, rfl, hr6, hb6⟩
                 rw [← Hso.out] at hr6
                 have hy6 := Hyd2.out.below hb6
                 have hb7 := hbi.trans (hb6.mono hsi)
                 clear hb6))
            exact ⟨⟨j + 1, m' + 1, by omega, by go_num, hr6.less (by have := Hyd2.out.1; omega), by omega, hy6, hb7⟩, by simp [intOf]; omega⟩
          · obtain rfl : j = ni := by omega
            have hr2 := Hrow2.out
            have hup := Hup.out
            rw [Hzl.out] at hup
            rw [← hup] at hr2
            have Hr2 := Lib.hid hr2
            clear hr2 hup
            go_wp2_with (fail)
            exact ⟨⟨k + 1, m', by omega, by go_num, Hr2.out, by omega, Hyd2.out, hbi⟩, by simp [intOf]; omega⟩
      · obtain rfl : k = n := by omega
        have hr2 := Hrow.out
        rw [← Hl.out, upTo_all] at hr2
        have hml : m = (sortL sss.flatten).length := by have := hr2.1; simp [cellsI] at this; omega
        subst hml
        have Hr2 := Lib.hid hr2
        clear hr2
        go_wp2_with (fail)
        go_ret
        exact ⟨_, rfl, Hr2.out.less (Nat.le_succ _), hbr⟩
end Go.Proofs.Yteghialkkhmggaa
