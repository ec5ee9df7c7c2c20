/- What a valid yard is, in plain Lean; spec.YardValid at yards that read as lists. Conditions: that the slices read as lists. -/
import Derived.Test.YteghialkkhmggaaStkOwn
namespace Go.Proofs.Yteghialkkhmggaa
open Go.RowKit
set_option linter.unusedVariables false

def yardB (hi : Int) (sss : List (List Int)) : Bool := inR (sss.length : Int) 1 5 && sss.all (fun s => stackB s hi) && decide sss.flatten.Nodup
/-- the ids of the first k stacks and of the first j boxes of the next one -/
def upTo (sss : List (List Int)) (k j : Nat) : List Int := (sss.take k).flatten ++ (sss.getD k []).take j
theorem upTo_zero (sss : List (List Int)) : upTo sss 0 0 = [] := by simp [upTo]
theorem upTo_succ {sss : List (List Int)} {k j : Nat} (hj : j < (sss.getD k []).length) : upTo sss k (j + 1) = upTo sss k j ++ [(sss.getD k []).getD j 0] := by
  have e : (sss.getD k []).getD j 0 = (sss.getD k [])[j] := by
    generalize sss.getD k [] = s at hj ⊢
    simp [List.getD, hj]
  rw [upTo, upTo, List.append_assoc, List.take_succ_eq_append_getElem hj, e]
theorem upTo_next {sss : List (List Int)} {k : Nat} (hk : k < sss.length) : upTo sss (k + 1) 0 = upTo sss k (sss.getD k []).length := by
  have e : sss.getD k [] = sss[k] := by simp [List.getD, hk]
  rw [upTo, upTo, List.take_length, e, List.take_zero, List.append_nil, List.take_succ_eq_append_getElem hk, List.flatten_append]
  simp
theorem upTo_all (sss : List (List Int)) : upTo sss sss.length 0 = sss.flatten := by simp [upTo]
theorem upTo_prefix (sss : List (List Int)) (k j : Nat) (hk : k < sss.length) : upTo sss k j <+: sss.flatten := by
  have e : sss.flatten = (sss.take k).flatten ++ (sss.getD k [] ++ (sss.drop (k + 1)).flatten) := by
    have h1 : sss = sss.take k ++ (sss.getD k [] :: sss.drop (k + 1)) := by
      have := List.take_append_drop k sss
      rw [List.drop_eq_getElem_cons hk] at this
      have e : sss.getD k [] = sss[k] := by simp [List.getD, hk]
      rw [e]; exact this.symm
    conv => lhs; rw [h1]
    simp
  rw [e, upTo]
  refine (List.prefix_append_right_inj _).2 ?_
  exact (List.take_prefix _ _).trans (List.prefix_append _ _)
theorem yard_dup {hi : Int} {sss : List (List Int)} {k j : Nat} (hk : k < sss.length) (hj : j < (sss.getD k []).length) (h : hasB (upTo sss k j) ((sss.getD k []).getD j 0) = true) : yardB hi sss = false := by
  cases e : yardB hi sss with
  | false => rfl
  | true =>
    simp only [yardB, Bool.and_eq_true, decide_eq_true_eq] at e
    have h1 := (upTo_prefix sss k (j + 1) hk).sublist
    have h2 := e.2.sublist h1
    rw [upTo_succ hj, List.nodup_append] at h2
    have h3 : (sss.getD k []).getD j 0 ∈ upTo sss k j := by simpa [hasB] using h
    exact absurd rfl (h2.2.2 _ h3 _ (by simp))
theorem nodup_more {xs : List Int} {x : Int} (h : xs.Nodup) (hx : hasB xs x = false) : (xs ++ [x]).Nodup := by
  rw [List.nodup_append]
  refine ⟨h, by simp, fun a ha b hb => ?_⟩
  have hbx : b = x := by simpa using hb
  subst hbx
  intro e
  subst e
  have : hasB xs a = true := by simpa [hasB] using ha
  rw [this] at hx; cases hx
theorem yard_bad {hi : Int} {sss : List (List Int)} {k : Nat} (hk : k < sss.length) (h : stackB (sss.getD k []) hi = false) : yardB hi sss = false := by
  cases e : yardB hi sss with
  | false => rfl
  | true =>
    simp only [yardB, Bool.and_eq_true, List.all_eq_true] at e
    have := e.1.2 (sss.getD k []) (by rw [List.getD, List.getElem?_eq_getElem hk]; exact List.getElem_mem _)
    rw [h] at this; cases this
theorem yard_end {hi : Int} {sss : List (List Int)} (h1 : ∀ k, k < sss.length → stackB (sss.getD k []) hi = true) (h2 : sss.flatten.Nodup) : yardB hi sss = inR (sss.length : Int) 1 5 := by
  have ha : sss.all (fun s => stackB s hi) = true := by
    rw [List.all_eq_true]
    intro s hs
    obtain ⟨i, hi', e⟩ := List.getElem_of_mem hs
    have := h1 i hi'
    simpa [List.getD, hi', e] using this
  rw [yardB, ha, decide_eq_true h2, Bool.and_true, Bool.and_true]
theorem stackB_high {s : List Int} {hi : Int} (h : stackB s hi = true) : inR hi 1 5 = true ∧ s.length ≤ 5 := by
  simp only [stackB, Bool.and_eq_true, decide_eq_true_eq] at h
  have := inR_iff.1 h.1.2
  exact ⟨h.1.2, by omega⟩

/-- a yard in a local variable -/
def Yd (w : World) (g : Nat) (hi : Int) (A : Option Addr) (n c : Nat) : Prop := g < w.heap.size ∧ w.cell? ⟨g, 0, none⟩ = some (.int .i64 hi) ∧ w.cell? ⟨g, 1, none⟩ = some (.slice A n c)
theorem Yd.below {w w' : World} {g : Nat} {hi : Int} {A : Option Addr} {n c : Nat} (h : Yd w g hi A n c) (hb : Below w.heap.size w w') : Yd w' g hi A n c :=
  ⟨Nat.lt_of_lt_of_le h.1 hb.size, (hb.cell (p := ⟨g, 0, none⟩) h.1).trans h.2.1, (hb.cell (p := ⟨g, 1, none⟩) h.1).trans h.2.2⟩
theorem Yd.row {w w' : World} {m g : Nat} {v : Value} {xs : List Int} {hi : Int} {A : Option Addr} {n c : Nat} (h : Yd w g hi A n c) (hr : RowI w (g + 1) v m xs) (hg : w.grownBy w' v.ownBlock) : Yd w' g hi A n c := by
  have hne : v.ownBlock ≠ some g := by
    intro e
    rcases hr.block with e2 | ⟨g2, e2, h3, h4⟩
    · rw [e2] at e; cases e
    · rw [e2] at e; injection e with e; omega
  exact ⟨Nat.lt_of_lt_of_le h.1 hg.size, (World.cell?_of_block (a := ⟨g, 0, none⟩) (hg.block g h.1 (Ne.symm hne))).trans h.2.1, (World.cell?_of_block (a := ⟨g, 1, none⟩) (hg.block g h.1 (Ne.symm hne))).trans h.2.2⟩
theorem empty_row2 {w : World} {B : Nat} (g : Nat) (hg : w.heap.size = g) (hB : B ≤ w.heap.size) : RowI (w.alloc (.cells #[] 3)) B (.slice (some ⟨g, 0, none⟩) 0 0) 0 [] := by subst hg; exact empty_row hB

set_option maxHeartbeats 3200000 in
theorem specYardValid_any (hi : Int) (A : Option Addr) (n c : Nat) (sss : List (List Int)) (w : World) (h : IsStk w A n c sss) (hn : n ≤ 1048576) :
    Calls Try.prog 13 #[.agg #[.int .i64 hi, .slice A n c]] w fun e w' => e = .returned (.bool (yardB hi sss)) ∧ Below w.heap.size w w' := by
  have Hl := Lib.hid h.length
  have hlen := h.len
  have H := Lib.hid h
  clear h
  have hy0 : Yd ((w.alloc (.cells #[.int .i64 hi, .slice A n c] 27)).alloc (.cells #[] 3)) w.heap.size hi A n c := Yd.below (w := w.alloc _) ⟨by simp, by go_simp, by go_simp⟩ ((Below.refl _ _).alloc (Nat.le_refl _) _)
  have hr0 : RowI ((w.alloc (.cells #[.int .i64 hi, .slice A n c] 27)).alloc (.cells #[] 3)) (w.heap.size + 1) (.slice (some ⟨w.heap.size + 1, 0, none⟩) 0 0) 0 (upTo sss 0 0) := by
    rw [upTo_zero]; exact empty_row2 (w.heap.size + 1) (by simp) (by simp)
  have hb0 : Below w.heap.size w ((w.alloc (.cells #[.int .i64 hi, .slice A n c] 27)).alloc (.cells #[] 3)) := ((Below.refl _ _).alloc (Nat.le_refl _) _).alloc (by simp) _
  have Hy0 := Lib.hid hy0
  have Hr0 := Lib.hid hr0
  have Hb0 := Lib.hid hb0
  clear hy0 hr0 hb0
  go_enter Try.func13, Try.ntmps13
  go_wp2_with (fail)
  go_loopw [3, 4] (fun v i wr => ∃ (k m : Nat), k ≤ n ∧ i = .int .i64 k ∧ RowI wr (w.heap.size + 1) v m (upTo sss k 0) ∧ m ≤ 5 * k ∧ (∀ j, j < k → stackB (sss.getD j []) hi = true) ∧ (upTo sss k 0).Nodup ∧ Yd wr w.heap.size hi A n c ∧ Below w.heap.size w wr) (fun _ i _ => n - (intOf i).toNat)
  case atStart => exact ⟨0, 0, by omega, rfl, Hr0.out, by omega, (fun j hj => absurd hj (by omega)), by rw [upTo_zero]; exact List.nodup_nil, Hy0.out, Hb0.out⟩
  case round =>
    obtain ⟨k, m, hk, rfl, hrow, hm, hall, hnd, hyd, hbr⟩ := hrel
    have hsr := hbr.size
    have Hall := Lib.hid hall
    have Hnd := Lib.hid hnd
    have Hrow := Lib.hid hrow
    have Hyd := Lib.hid hyd
    obtain ⟨y3, p0, p1⟩ := id hyd
    clear hall hnd hrow hyd
    by_cases hlt : k < n
    · have hlt' : (k : Int) < n := by omega
      have hk0 : (0 : Int) ≤ k := by omega
      have hkx : k < sss.length := by rw [Hl.out]; exact hlt
      obtain ⟨b, off, Ai, ni, ci, hA, hb, hc0, hz⟩ := H.out.at_ hlt
      subst hA
      have hc := (hbr.cell (p := ⟨b, off + k, none⟩) hb).trans hc0
      have hz1 : Ints wr.drew Ai ni ci (sss.getD k []) := hz.below hbr.drew
      have Hz := Lib.hid hz
      have hc9 := hc0
      have hbr2 := Nat.lt_of_lt_of_le hb hsr
      cases hs : stackB (sss.getD k []) hi with
      | false =>
        have hfin := yard_bad (hi := hi) hkx hs
        have Hfin := Lib.hid hfin
        clear hfin hz hc0
        go_wp2_with (fail)
        go_region_held3 (fun w' => w'.cell? ⟨w.heap.size, 0, none⟩ = some (.int .i64 hi) ∧ w'.cell? ⟨w.heap.size, 1, none⟩ = some (.slice (some ⟨b, off, none⟩) n c) ∧ w'.cell? ⟨b, off + k, none⟩ = some (.slice Ai ni ci)) (first | (go_keep; done) | exact ⟨e0, e1, e2⟩)
          (first
            | (go_at_call 39; refine (specStackValid_any _ _ _ _ _ _ hz1).mono ?_; rintro e w1 ⟨rfl, hb1⟩; rw [hs]
               have hb2 := (hbr.drew).trans (hb1.mono hsr)
               have e0 := (hb1.cell (p := ⟨w.heap.size, 0, none⟩) y3).trans p0
               have e1 := (hb1.cell (p := ⟨w.heap.size, 1, none⟩) y3).trans p1
               have e2 := (hb1.cell (p := ⟨b, off + k, none⟩) hbr2).trans hc))
        all_goals go_wp2_with (fail)
        all_goals go_ret
        all_goals exact ⟨ret_bool (by rw [Hfin.out]), hb2⟩
      | true =>
        obtain ⟨hih, hl5⟩ := stackB_high hs
        have hzl := hz.length
        have hni5 : ni ≤ 5 := by omega
        clear hz hc0
        have Hc9 := Lib.hid hc9
        clear hc9
        go_wp2_with (fail)
        go_region_held3 (fun w' => w'.cell? ⟨w.heap.size, 0, none⟩ = some (.int .i64 hi) ∧ w'.cell? ⟨w.heap.size, 1, none⟩ = some (.slice (some ⟨b, off, none⟩) n c) ∧ w'.cell? ⟨b, off + k, none⟩ = some (.slice Ai ni ci)) (first | (go_keep; done) | exact ⟨e0, e1, e2⟩)
          (first
            | (go_at_call 39; refine (specStackValid_any _ _ _ _ _ _ hz1).mono ?_; rintro e w1 ⟨rfl, hb1⟩; rw [hs]
               have hb2 := (hbr.drew).trans (hb1.mono hsr)
               have e0 := (hb1.cell (p := ⟨w.heap.size, 0, none⟩) y3).trans p0
               have e1 := (hb1.cell (p := ⟨w.heap.size, 1, none⟩) y3).trans p1
               have e2 := (hb1.cell (p := ⟨b, off + k, none⟩) hbr2).trans hc
               have hyd1 : Yd w1 w.heap.size hi (some ⟨b, off, none⟩) n c := Hyd.out.below (w := wr.drew) hb1
               have hrow1 : RowI w1 (w.heap.size + 1) _ m (upTo sss k 0) := below_row (w := wr.drew) Hrow.out hb1))
        go_wp2_with (fail)
        have hall2 : ∀ j, j < k + 1 → stackB (sss.getD j []) hi = true := by
          intro j hj
          by_cases hjk : j = k
          · rw [hjk]; exact hs
          · exact Hall.out j (by omega)
        have hup := upTo_next hkx
        have hdup := fun j hj => @yard_dup hi sss k j hkx hj
        have husu := fun j hj => @upTo_succ sss k j hj
        have hs2 := hb2.size
        obtain ⟨ys, hys⟩ : ∃ ys, sss.getD k [] = ys := ⟨_, rfl⟩
        rw [hys] at hzl hup hdup husu
        have Hall2 := Lib.hid hall2
        have Hup := Lib.hid hup
        have Hdup := Lib.hid hdup
        have Husu := Lib.hid husu
        have Hyd1 := Lib.hid hyd1
        have Hrow1 := Lib.hid hrow1
        have Hzl := Lib.hid hzl
        have Hb2 := Lib.hid hb2
        have hz3 : Ints w Ai ni ci ys := by have := Hz.out; rwa [hys] at this
        have Hz3 := Lib.hid hz3
        have hh0 : stackB ys hi = true := by rw [← hys]; exact hs
        clear hall2 hup hdup husu hyd1 hrow1 hz1 hys hs hz3 hh0 hb1 e0 e1 e2 p0 p1 y3 hc hbr hsr hbr2 hs2 hzl hb2
        go_loopw [3, 5] (fun v q wi => ∃ (j m' : Nat), j ≤ ni ∧ q = .int .i64 j ∧ RowI wi (w.heap.size + 1) v m' (upTo sss k j) ∧ m' ≤ 5 * k + j ∧ (upTo sss k j).Nodup ∧ Yd wi w.heap.size hi (some ⟨b, off, none⟩) n c ∧ Below w.heap.size w wi) (fun _ q _ => ni - (intOf q).toNat)
        case atStart => exact ⟨0, m, by omega, rfl, Hrow1.out, by omega, Hnd.out, Hyd1.out, Hb2.out⟩
        case round =>
          obtain ⟨j, m', hj, rfl, hrow, hm', hnd, hyd, hbi⟩ := hrel
          have hsi := hbi.size
          obtain ⟨A5, c5, rfl, ho5⟩ := hrow.own
          have hI5 := ho5.ints
          have Hnd2 := Lib.hid hnd
          have Hrow2 := Lib.hid hrow
          have Hyd2 := Lib.hid hyd
          have HI5 := Lib.hid hI5
          obtain ⟨y3, p0, p1⟩ := id hyd
          clear hnd hrow hyd hI5 ho5
          have hc := (hbi.cell (p := ⟨b, off + k, none⟩) hb).trans Hc9.out
          by_cases hjl : j < ni
          · have hjl' : (j : Int) < ni := by omega
            have hj0 : (0 : Int) ≤ j := by omega
            obtain ⟨b2, off2, hA2, hb2, hd⟩ := Hz3.out.at_ hjl
            subst hA2
            have hd1 := (hbi.cell (p := ⟨b2, off2 + j, none⟩) hb2).trans hd
            have hjy : j < ys.length := by rw [Hzl.out]; exact hjl
            have hsu := Husu.out j hjy
            have hdu := Hdup.out j hjy
            obtain ⟨u, hu⟩ : ∃ u, ys.getD j 0 = u := ⟨_, rfl⟩
            rw [hu] at hd1 hsu hdu
            cases hha : hasB (upTo sss k j) u with
            | true =>
              have hfin := hdu hha
              have Hfin := Lib.hid hfin
              clear hfin hsu hdu hu hd
              go_wp2_with (go_at_call 40; refine (l1Has_any _ _ _ _ _ _ HI5.out).mono ?_; rintro e w' ⟨rfl, rfl⟩; rw [hha])
              go_ret
              exact ⟨ret_bool (by rw [Hfin.out]), hbi⟩
            | false =>
              have hnd3 := nodup_more Hnd2.out hha
              rw [← hsu] at hnd3
              have Hsu := Lib.hid hsu
              have Hnd3 := Lib.hid hnd3
              clear hsu hdu hu hd hnd3
              go_wp2_with (first
                | (at_builtin; refine wpList_append_ints rfl _ _ rfl (w.heap.size + 1) _ m' _ rfl (Hrow2.out.alloc _) _ 1 1 [u] rfl (one_ints _ _) (by omega) (le_alloc Hyd2.out.1 _) ?_; intro v' w' hr' hg'
                   rw [← Hsu.out] at hr'
                   have hb' : Below w.heap.size w w' := below_append (hbi.alloc hsi _) (RowI.less (Hrow2.out.alloc _) (Nat.le_succ _)) hg' (le_alloc hsi _)
                   have hy' : Yd w' w.heap.size hi (some ⟨b, off, none⟩) n c := (Hyd2.out.below ((Below.refl _ _).alloc (Nat.le_refl _) _)).row (Hrow2.out.alloc _) hg'
                   clear hg')
                | (go_at_call 40; refine (l1Has_any _ _ _ _ _ _ HI5.out).mono ?_; rintro e w' ⟨rfl, rfl⟩; rw [hha]))
              exact ⟨⟨j + 1, m' + 1, by omega, by go_num, hr', by omega, Hnd3.out, hy', hb'⟩, by simp [intOf]; omega⟩
          · obtain rfl : j = ni := by omega
            have hr2 := Hrow2.out
            have hn2 := Hnd2.out
            have hup := Hup.out
            rw [Hzl.out] at hup
            rw [← hup] at hr2 hn2
            have Hr2 := Lib.hid hr2
            have Hn2 := Lib.hid hn2
            clear hr2 hn2 hup
            go_wp2_with (fail)
            exact ⟨⟨k + 1, m', by omega, by go_num, Hr2.out, by omega, Hall2.out, Hn2.out, Hyd2.out, hbi⟩, by simp [intOf]; omega⟩
    · obtain rfl : k = n := by omega
      have hall := Hall.out
      have hnd := Hnd.out
      rw [← Hl.out] at hnd hall
      rw [upTo_all] at hnd
      have hfin := yard_end hall hnd
      rw [Hl.out] at hfin
      have hhi : 0 < k → inR hi 1 5 = true := by
        intro h0
        exact (stackB_high (Hall.out 0 h0)).1
      have Hfin := Lib.hid hfin
      have Hhi := Lib.hid hhi
      clear hall hnd hfin hhi
      cases hin : inR (k : Int) 1 5 with
      | false =>
        go_wp2_with (go_at_call 41; refine (l1In_any _ _ _ _).mono ?_; rintro e w' ⟨rfl, rfl⟩)
        all_goals go_ret
        all_goals exact ⟨ret_bool (by rw [Hfin.out, hin]), hbr⟩
      | true =>
        have hih := Hhi.out (by have := inR_iff.1 hin; omega)
        go_wp2_with (go_at_call 41; refine (l1In_any _ _ _ _).mono ?_; rintro e w' ⟨rfl, rfl⟩)
        all_goals go_ret
        all_goals exact ⟨ret_bool (by rw [Hfin.out, hin]), hbr⟩
end Go.Proofs.Yteghialkkhmggaa
