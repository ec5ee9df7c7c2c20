/- A set of integers kept in a map[int]bool that the call makes: look-up and store at the operation. Conditions: the integers fit their kind. -/
import Derived.Test.YteghialkkhmggaaYard
import Derived.Maps.OwnOps
import Derived.Maps.Views
namespace Go.Proofs.Yteghialkkhmggaa
open Go.RowKit Go.Maps
set_option linter.unusedVariables false

theorem keyLaw : Keyed Try.prog 3 := int_keyed Try.underlying3
theorem zeroBool (w : World) : (zeroValue 4).run Try.prog w = .ok (.bool false) w := by kernel_rfl

/-- block b is a map of at most n entries that tells the numbers of xs, and no others -/
def Seen (w : World) (b n : Nat) (xs : List Int) : Prop :=
  ∃ D : DataW Unit, w.ownsMap Try.prog 3 (plainElem Try.prog 4) b n D ∧ Maps.IsMap D ∧ ∀ x : Int, D.atKey (.int .i64 x) (.lit (.bool false)) = .lit (.bool (hasB xs x))
theorem Seen.made (w : World) : Seen (w.alloc (.map #[] 0)) w.heap.size 0 [] :=
  ⟨.map [], World.ownsMap_made _ _ _ _, isMap_empty, fun x => by simp [DataW.atKey, hasB]⟩
theorem Seen.lt {w : World} {b n : Nat} {xs : List Int} (h : Seen w b n xs) : b < w.heap.size := by
  obtain ⟨D, h1, _⟩ := h
  exact h1.lt
theorem Seen.below {w w' : World} {b n : Nat} {xs : List Int} (h : Seen w b n xs) (hb : Below w.heap.size w w') : Seen w' b n xs := by
  obtain ⟨D, h1, h2⟩ := h
  exact ⟨D, h1.kept (row := none) ⟨hb.os, hb.tape, hb.output, hb.size, fun k hk _ => hb.block k hk⟩ (by simp), h2⟩

theorem plainElem_bool_inv {P : Program} {e : TypeId} (he : P.underlying e = some .bool) {v : Value} {x : DataW Unit} {ps : List MemPlace} (h : plainElem P e v = some (x, ps)) : ∃ b, v = .bool b ∧ x = .lit (.bool b) := by
  unfold plainElem at h
  rw [he] at h
  cases v <;> simp at h
  exact ⟨_, rfl, h.1.symm⟩
set_option maxRecDepth 10000 in
theorem wpList_seen {w : World} {ops : Array Oper} {rest : List Oper} {o : Oper} {a : Act} {Q : Exit → Act → World → Prop} (hg : o.guard = none) (m x : Operand)
    (hop : o.op = Op.lookup 54 m x false) (b n : Nat) (xs : List Int) (hm : a.eval m = .map (some b)) (hs : Seen w b n xs) (id : Int) (hx : a.eval x = .int .i64 id) (hw : (Lit.int .i64 id).wf = true)
    (h : wpList Try.prog ops Q rest (a.put o.dst (.bool (hasB xs id))) w) : wpList Try.prog ops Q (o :: rest) a w := by
  obtain ⟨D, hown, hD, hat⟩ := hs
  refine wpList_plain hg fun K' hK' => ?_
  obtain ⟨v, ps, hrun, hv⟩ := hown.lookup keyLaw Try.underlying54 (zeroBool w) (plainElem_bool Try.underlying4 false) (keyOf_int_mk Try.underlying3 hw)
  have hv2 : plainElem (H := Unit) Try.prog 4 v = some (.lit (.bool (hasB xs id)), ps) := (hat id) ▸ hv
  have ub : Try.prog.underlying 4 = some .bool := Try.underlying4
  obtain ⟨c, rfl, hc⟩ := plainElem_bool_inv (P := Try.prog) (e := 4) ub hv2
  have hcb : hasB xs id = c := by injection hc with hc; injection hc
  rw [hcb] at h
  unfold Oper.wp
  simp [execOp, hop, hm, hx, hrun, Result.andThen]
  exact hK' _ _ h

theorem wpList_mark {w : World} {ops : Array Oper} {rest : List Oper} {o : Oper} {a : Act} {Q : Exit → Act → World → Prop} (hg : o.guard = none) (m x v : Operand)
    (hop : o.op = Op.mapUpdate 54 m x v) (b n : Nat) (xs : List Int) (hm : a.eval m = .map (some b)) (hs : Seen w b n xs) (hn : n < 1000000000) (id : Int) (hx : a.eval x = .int .i64 id) (hv : a.eval v = .bool true) (hw : (Lit.int .i64 id).wf = true)
    (h : ∀ w', Seen w' b (n + 1) (xs ++ [id]) → w.grownBy w' (some b) → wpList Try.prog ops Q rest (a.put o.dst undef) w') : wpList Try.prog ops Q (o :: rest) a w := by
  obtain ⟨D, hown, hD, hat⟩ := hs
  refine wpList_mapUpdate_own w hg m x v 54 hop 3 4 keyLaw Try.underlying54 _ b n D hm hown (by unfold maxLen; omega) _ _ (.int .i64 id) hx hv (keyOf_int_mk Try.underlying3 hw) (.lit (.bool true)) [] (plainElem_bool Try.underlying4 true) ?_
  intro w' h1 h2
  refine h w' ⟨_, h1, hD.put _ _, fun y => ?_⟩ h2
  by_cases hy : y = id
  · subst hy
    rw [atKey_put_same hD (by trivial)]
    simp [hasB]
  · have hne : (Lit.int .i64 y) ≠ Lit.int .i64 id := by
      intro e
      injection e with _ e
      exact hy e
    rw [atKey_put_other hne, hat]
    simp [hasB, hy]
theorem below_mark {B b : Nat} {w w1 w2 : World} (hb : Below B w w1) (hg : w1.grownBy w2 (some b)) (hB : B ≤ b) (hs : B ≤ w1.heap.size) : Below B w w2 :=
  hb.trans ⟨hg.os, hg.tape, hg.output, hg.size, fun k hk => hg.block k (by omega) (fun e => by injection e with e; omega)⟩
theorem Yd.other {w w' : World} {g : Nat} {hi : Int} {A : Option Addr} {n c : Nat} (h : Yd w g hi A n c) (hg : w.grownBy w' (some (g + 1))) : Yd w' g hi A n c :=
  ⟨Nat.lt_of_lt_of_le h.1 hg.size, (World.cell?_of_block (a := ⟨g, 0, none⟩) (hg.block g h.1 (fun e => by injection e with e; omega))).trans h.2.1, (World.cell?_of_block (a := ⟨g, 1, none⟩) (hg.block g h.1 (fun e => by injection e with e; omega))).trans h.2.2⟩
theorem id_wf {s : List Int} {hi : Int} (h : stackB s hi = true) {j : Nat} (hj : j < s.length) : (Lit.int .i64 (s.getD j 0)).wf = true := by
  simp only [stackB, Bool.and_eq_true, okB, List.all_eq_true, List.mem_range] at h
  have := inR_iff.1 (h.1.1 j hj).1
  exact WalkArith.wf_i64 (by omega)

set_option maxHeartbeats 3200000 in
theorem implYardValid_any (hi : Int) (A : Option Addr) (n c : Nat) (sss : List (List Int)) (w : World) (h : IsStk w A n c sss) :
    Calls Try.prog 15 #[.agg #[.int .i64 hi, .slice A n c]] w fun e w' => e = .returned (.bool (yardB hi sss)) ∧ Below w.heap.size w w' := by
  have Hl := Lib.hid h.length
  have hlen := h.len
  have H := Lib.hid h
  clear h
  cases hin : inR (n : Int) 1 5 with
  | false =>
    have hfin : yardB hi sss = false := by rw [yardB, Hl.out, hin]; rfl
    have Hfin := Lib.hid hfin
    clear hfin
    go_enter Try.func15, Try.ntmps15
    go_wp2_with (go_at_call 43; refine (within_any _ _ _ _).mono ?_; rintro e w' ⟨rfl, rfl⟩; rw [hin])
    go_ret
    exact ⟨ret_bool (by rw [Hfin.out]), (by repeat' (first | with_reducible exact Below.refl _ _ | with_reducible assumption | with_reducible refine bel_step (by with_reducible assumption) ?_ ?_ | with_reducible refine Below.drew ?_ | with_reducible refine below_drewN ?_ _ | with_reducible refine Below.alloc ?_ ?_ _ | with_reducible refine Below.setCell ?_ ?_ _ | (simp; done) | (simp; omega) | omega | with_reducible refine below_le (by with_reducible assumption) ?_))⟩
  | true =>
    obtain ⟨hin1, hin2⟩ := inR_iff.1 hin
    have hmm := @run_makeMap Try.prog
    go_enter Try.func15, Try.ntmps15
    go_wp2_with (go_at_call 43; refine (within_any _ _ _ _).mono ?_; rintro e w' ⟨rfl, rfl⟩; rw [hin])
    have hy0 : Yd ((w.alloc (.cells #[.int .i64 hi, .slice A n c] 27)).alloc (.map #[] 0)) w.heap.size hi A n c := Yd.below (w := w.alloc _) ⟨by simp, by go_simp, by go_simp⟩ ((Below.refl _ _).alloc (Nat.le_refl _) _)
    have hs0 : Seen ((w.alloc (.cells #[.int .i64 hi, .slice A n c] 27)).alloc (.map #[] 0)) (w.heap.size + 1) 0 (upTo sss 0 0) := by
      rw [upTo_zero]
      have := Seen.made (w.alloc (.cells #[.int .i64 hi, .slice A n c] 27))
      simpa using this
    have hb0 : Below w.heap.size w ((w.alloc (.cells #[.int .i64 hi, .slice A n c] 27)).alloc (.map #[] 0)) := ((Below.refl _ _).alloc (Nat.le_refl _) _).alloc (by simp) _
    go_loopw [17] (fun i wr => ∃ (k m : Nat), k ≤ n ∧ i = .int .i64 k ∧ Seen wr (w.heap.size + 1) m (upTo sss k 0) ∧ m ≤ 5 * k ∧ (∀ j, j < k → stackB (sss.getD j []) hi = true) ∧ (upTo sss k 0).Nodup ∧ Yd wr w.heap.size hi A n c ∧ Below w.heap.size w wr) (fun i _ => n - (intOf i).toNat)
    case atStart => exact ⟨0, 0, by omega, rfl, hs0, by omega, (fun j hj => absurd hj (by omega)), by rw [upTo_zero]; exact List.nodup_nil, hy0, hb0⟩
    case round =>
      clear hy0 hs0 hb0 hmm
      obtain ⟨k, m, hk, rfl, hsn, hm, hall, hnd, hyd, hbr⟩ := hrel
      have hsr := hbr.size
      have Hall := Lib.hid hall
      have Hnd := Lib.hid hnd
      have Hsn := Lib.hid hsn
      have Hyd := Lib.hid hyd
      obtain ⟨y3, p0, p1⟩ := id hyd
      clear hall hnd hsn hyd
      by_cases hlt : k < n
      · have hlt' : (k : Int) < n := by omega
        have hk0 : (0 : Int) ≤ k := by omega
        have hkx : k < sss.length := by rw [Hl.out]; exact hlt
        obtain ⟨b, off, Ai, ni, ci, hA, hb, hc0, hz⟩ := H.out.at_ hlt
        subst hA
        have hc := (hbr.cell (p := ⟨b, off + k, none⟩) hb).trans hc0
        have hz1 := hz.below hbr
        have Hz := Lib.hid hz
        have hzl := hz.length
        cases hs : stackB (sss.getD k []) hi with
        | false =>
          have hfin := yard_bad (hi := hi) hkx hs
          have Hfin := Lib.hid hfin
          clear hfin hz hc0
          go_wp2_with (go_at_call 44; refine (implStackValid_any _ _ _ _ _ _ hz1).mono ?_; rintro e w1 ⟨rfl, rfl⟩; rw [hs])
          go_ret
          exact ⟨ret_bool (by rw [Hfin.out]), hbr⟩
        | true =>
          obtain ⟨hih, hl5⟩ := stackB_high hs
          have hni5 : ni ≤ 5 := by omega
          have hall2 : ∀ j, j < k + 1 → stackB (sss.getD j []) hi = true := by
            intro j hj
            by_cases hjk : j = k
            · rw [hjk]; exact hs
            · exact Hall.out j (by omega)
          have hup := upTo_next hkx
          have hdup := fun j hj => @yard_dup hi sss k j hkx hj
          have husu := fun j hj => @upTo_succ sss k j hj
          have hidw := fun (j : Nat) hj => @id_wf (sss.getD k []) hi hs j hj
          clear hz hc0
          go_wp2_with (go_at_call 44; refine (implStackValid_any _ _ _ _ _ _ hz1).mono ?_; rintro e w1 ⟨rfl, rfl⟩; rw [hs])
          obtain ⟨ys, hys⟩ : ∃ ys, sss.getD k [] = ys := ⟨_, rfl⟩
          rw [hys] at hzl hup hdup husu hidw
          have Hall2 := Lib.hid hall2
          have Hup := Lib.hid hup
          have Hdup := Lib.hid hdup
          have Husu := Lib.hid husu
          have Hidw := Lib.hid hidw
          have Hzl := Lib.hid hzl
          have hz3 : Ints w Ai ni ci ys := by have := Hz.out; rwa [hys] at this
          have Hz3 := Lib.hid hz3
          clear hall2 hup hdup husu hidw hz1 hys hs hz3 p0 p1 y3 hc hsr hzl
          go_loopw [28] (fun q wi => ∃ (j m' : Nat), j ≤ ni ∧ q = .int .i64 j ∧ Seen wi (w.heap.size + 1) m' (upTo sss k j) ∧ m' ≤ 5 * k + j ∧ (upTo sss k j).Nodup ∧ Yd wi w.heap.size hi (some ⟨b, off, none⟩) n c ∧ Below w.heap.size w wi) (fun q _ => ni - (intOf q).toNat)
          case atStart => exact ⟨0, m, by omega, rfl, Hsn.out, by omega, Hnd.out, Hyd.out, hbr⟩
          case round =>
            obtain ⟨j, m', hj, rfl, hsn, hm', hnd, hyd, hbi⟩ := hrel
            have hsi := hbi.size
            have Hnd2 := Lib.hid hnd
            have Hsn2 := Lib.hid hsn
            have Hyd2 := Lib.hid hyd
            clear hnd hsn hyd
            by_cases hjl : j < ni
            · have hjl' : (j : Int) < ni := by omega
              have hj0 : (0 : Int) ≤ j := by omega
              obtain ⟨b2, off2, hA2, hb2, hd⟩ := Hz3.out.at_ hjl
              subst hA2
              have hd1 := (hbi.cell (p := ⟨b2, off2 + j, none⟩) hb2).trans hd
              have hjy : j < ys.length := by rw [Hzl.out]; exact hjl
              have hsu := Husu.out j hjy
              have hdu := Hdup.out j hjy
              have hwu := Hidw.out j hjy
              obtain ⟨u, hu⟩ : ∃ u, ys.getD j 0 = u := ⟨_, rfl⟩
              rw [hu] at hd1 hsu hdu hwu
              have Hwu := Lib.hid hwu
              cases hha : hasB (upTo sss k j) u with
              | true =>
                have hfin := hdu hha
                have Hfin := Lib.hid hfin
                clear hfin hsu hdu hu hd hwu
                go_wp2_with (at_lookup; refine wpList_seen rfl _ _ rfl _ m' _ rfl Hsn2.out u rfl Hwu.out ?_; rw [hha])
                go_ret
                exact ⟨ret_bool (by rw [Hfin.out]), hbi⟩
              | false =>
                have hnd3 := nodup_more Hnd2.out hha
                rw [← hsu] at hnd3
                have Hsu := Lib.hid hsu
                have Hnd3 := Lib.hid hnd3
                clear hsu hdu hu hd hnd3 hwu
                go_wp2_with (first
                  | (at_mapUpdate; refine wpList_mark rfl _ _ _ rfl _ m' _ rfl Hsn2.out (by omega) u rfl rfl Hwu.out ?_; intro w' hs' hg'
                     rw [← Hsu.out] at hs'
                     have hb' : Below w.heap.size w w' := below_mark hbi hg' (by omega) hsi
                     have hy' : Yd w' w.heap.size hi (some ⟨b, off, none⟩) n c := Yd.other Hyd2.out hg'
                     clear hg')
                  | (at_lookup; refine wpList_seen rfl _ _ rfl _ m' _ rfl Hsn2.out u rfl Hwu.out ?_; rw [hha]))
                exact ⟨⟨j + 1, m' + 1, by omega, by go_num, hs', by omega, Hnd3.out, hy', hb'⟩, by simp [intOf]; omega⟩
            · obtain rfl : j = ni := by omega
              have hr2 := Hsn2.out
              have hn2 := Hnd2.out
              have hup := Hup.out
              rw [Hzl.out] at hup
              rw [← hup] at hr2 hn2
              have Hr2 := Lib.hid hr2
              have Hn2 := Lib.hid hn2
              clear hr2 hn2 hup
              go_wp2_with (fail)
              exact ⟨⟨k + 1, m', by omega, by go_num, Hr2.out, by omega, Hall2.out, Hn2.out, Hyd2.out, hbi⟩, by simp [intOf]; omega⟩
      · obtain rfl : k = n := by omega
        have hall := Hall.out
        have hnd := Hnd.out
        rw [← Hl.out] at hnd hall
        rw [upTo_all] at hnd
        have hfin := yard_end hall hnd
        rw [Hl.out, hin] at hfin
        have Hfin := Lib.hid hfin
        clear hall hnd hfin
        go_wp2_with (fail)
        go_ret
        exact ⟨ret_bool (by rw [Hfin.out]), hbr⟩
end Go.Proofs.Yteghialkkhmggaa
