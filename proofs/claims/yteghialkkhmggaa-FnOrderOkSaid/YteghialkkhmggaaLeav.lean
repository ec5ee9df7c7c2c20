/- The drawer of orders. Conditions: as the reader's. -/
import Derived.Test.YteghialkkhmggaaDrYard2
import Derived.Test.YteghialkkhmggaaIds
import Derived.Maps.AppendAt
namespace Go.Proofs.Yteghialkkhmggaa
open Go.RowKit
set_option linter.unusedVariables false

/-- append of a slice that reads as a list, nil too: the new row lies in the old one's block or in the newest -/
theorem run_ints_at (w : World) (B : Nat) (v : Value) (n : Nat) (xs : List Int) (hown : RowI w B v n xs) (A : Option Addr) (m c : Nat) (ys : List Int) (hr : Ints w A m c ys) (hnm : n + m ≤ 1000000000) (hB : B ≤ w.heap.size) (ty : TypeId) :
    ∃ v' w', (Builtin.append_ #[33, 33] ty #[v, .slice A m c]).run Try.prog w = .ok v' w' ∧ RowI w' B v' (n + m) (xs ++ ys) ∧ w.grownBy w' v.ownBlock ∧ (v'.ownBlock = v.ownBlock ∨ v'.ownBlock = some w.heap.size) := by
  obtain ⟨i0, hi, hz0, hz1, hz2⟩ := info_parts int_info
  cases A with
  | none =>
    have hc : c = 0 := hr.2.2.2.1 rfl
    have hm : m = 0 := by have := hr.1; omega
    subst hc hm
    have hy : ys = [] := List.eq_nil_of_length_eq_zero hr.length
    subst hy
    have hrun := run_append_owned_none (P := Try.prog) (w := w) B 33 ty 3 i0 1 Try.underlying33 hi v n (cellsI xs) hown
    exact ⟨v, w, hrun, by simpa using hown, World.grownBy.refl w _, .inl rfl⟩
  | some ad =>
    obtain ⟨v', w', h1, h2, h3, _, h5⟩ := run_append_own_at (P := Try.prog) w B 33 ty 3 i0 (.int .i64 0) 1 8 Try.underlying33 hi hz0 hz1 hz2 rfl (by omega) v n (cellsI xs) hown ad m c (cellsI ys) (by simp [cellsI, hr.length]) (by
      intro j u hu
      have hj : j < m := by
        have := (List.getElem?_eq_some_iff.1 hu).1
        simpa [cellsI, hr.length] using this
      obtain ⟨b, off, e, _, hc⟩ := hr.at_ hj
      injection e with e
      subst e
      rw [add_off, hc, ← hu]
      simp [cellsI, List.getElem?_map, List.getD, List.getElem?_eq_getElem (show j < ys.length by rw [hr.length]; exact hj)]) (cellsI_one ys) (by unfold maxLen; omega) (by omega) hB
    exact ⟨v', w', h1, by rw [RowI, cellsI_append]; exact h2, h3, h5⟩

theorem wpList_ints_at {w : World} {ops : Array Oper} {rest : List Oper} {o : Oper} {a : Act} {Q : Exit → Act → World → Prop} (hgd : o.guard = none) (s x : Operand)
    (ho : o.op = .call { callee := .builtin .append, args := #[s, x], argTypes := #[33, 33] })
    (B : Nat) (v : Value) (n : Nat) (xs : List Int) (hs : a.eval s = v) (hown : RowI w B v n xs)
    (A : Option Addr) (m c : Nat) (ys : List Int) (hx : a.eval x = .slice A m c) (hr : Ints w A m c ys) (hnm : n + m ≤ 1000000000) (hB : B ≤ w.heap.size)
    (h : ∀ v' w', RowI w' B v' (n + m) (xs ++ ys) → w.grownBy w' v.ownBlock → (v'.ownBlock = v.ownBlock ∨ v'.ownBlock = some w.heap.size) → wpList Try.prog ops Q rest (a.put o.dst v') w') : wpList Try.prog ops Q (o :: rest) a w := by
  obtain ⟨v', w', hrun, h1, h2, h3⟩ := run_ints_at w B v n xs hown A m c ys hr hnm hB o.type
  exact Lib.wpList_append_run w hgd s x _ _ ho v _ hs hx v' w' hrun (h v' w' h1 h2 h3)
theorem step_ints_at {ops : Array Oper} {o : Oper} {a : Act} {w : World} {K : Act → World → Prop} {Q : Exit → Act → World → Prop} {E : Prop} (hw : Region.wanted o (yielded ops a.tmps) = true) (s x : Operand)
    (ho : o.op = .call { callee := .builtin .append, args := #[s, x], argTypes := #[33, 33] })
    (B : Nat) (v : Value) (n : Nat) (xs : List Int) (hs : a.eval s = v) (hown : RowI w B v n xs)
    (A : Option Addr) (m c : Nat) (ys : List Int) (hx : a.eval x = .slice A m c) (hr : Ints w A m c ys) (hnm : n + m ≤ 1000000000) (hB : B ≤ w.heap.size)
    (h : ∀ v' w', RowI w' B v' (n + m) (xs ++ ys) → w.grownBy w' v.ownBlock → (v'.ownBlock = v.ownBlock ∨ v'.ownBlock = some w.heap.size) → K (a.put o.dst v') w') : if Region.wanted o (yielded ops a.tmps) = true then Oper.wp Try.prog o a w K Q else E := by
  rw [if_pos hw]
  obtain ⟨v', w', hrun, h1, h2, h3⟩ := run_ints_at w B v n xs hown A m c ys hr hnm hB o.type
  unfold Oper.wp
  simp [execOp, ho, resolve, invoke, builtin, hs, hx, hrun, Result.andThen]
  exact h v' w' h1 h2 h3

/-- a prefix of an owned row -/
theorem RowI.cut {w : World} {B n c k : Nat} {A : Option Addr} {xs : List Int} (h : RowI w B (.slice A n c) n xs) (hk : k ≤ n) : RowI w B (.slice A k c) k (xs.take k) := by
  obtain ⟨h1, h2⟩ := h
  have hl : xs.length = n := by simpa [cellsI] using h1
  rcases h2 with ⟨e, h0⟩ | ⟨g, cap, cur, e, hg, hh, hn, hm, hs, ht⟩
  · simp only [Value.slice.injEq] at e
    obtain ⟨rfl, _, rfl⟩ := e
    obtain rfl : k = 0 := by omega
    exact ⟨by simp [cellsI], .inl ⟨rfl, rfl⟩⟩
  · simp only [Value.slice.injEq] at e
    obtain ⟨rfl, _, rfl⟩ := e
    refine ⟨by simp [cellsI]; omega, .inr ⟨g, c, cur, rfl, hg, hh, by omega, hm, hs, ?_⟩⟩
    have : cellsI (xs.take k) = (cellsI xs).take k := by simp [cellsI]
    rw [this, ← ht, List.take_take]
    congr 1
    omega

theorem flatten_len (sss : List (List Int)) (h : ∀ s ∈ sss, s.length ≤ 5) : sss.flatten.length ≤ 5 * sss.length := by
  induction sss with
  | nil => simp
  | cons s l ih =>
    have h1 := h s (by simp)
    have h2 := ih (fun s hs => h s (by simp [hs]))
    simp only [List.flatten_cons, List.length_append, List.length_cons]
    omega
theorem idsV_len (hi : Int) (sss : List (List Int)) : (idsV hi sss).length ≤ 25 := by
  unfold idsV
  split
  · rename_i h
    have h5 := yard_five h
    simp only [yardB, Bool.and_eq_true, List.all_eq_true] at h
    rw [sortL_length]
    have := flatten_len sss (fun s hs => (stackB_high (h.1.2 s hs)).2)
    omega
  · simp

/-- integers in a block between two bounds -/
def Mid (w : World) (lo hi : Nat) (A : Option Addr) (n c : Nat) (xs : List Int) : Prop := Ints w A n c xs ∧ ∀ p, A = some p → lo < p.block ∧ p.block < hi ∧ p.block < w.heap.size
theorem Mid.grown {w w' : World} {lo hi n c : Nat} {A : Option Addr} {xs : List Int} {r : Option Nat} (h : Mid w lo hi A n c xs) (hg : w.grownBy w' r) (hr : ∀ k, r = some k → k ≤ lo ∨ hi ≤ k) : Mid w' lo hi A n c xs := by
  obtain ⟨h1, h2⟩ := h
  refine ⟨h1.keep hg.size fun b o e j => World.cell?_of_block (hg.block b (h2 _ e).2.2 fun e' => ?_), fun p hp => ⟨(h2 p hp).1, (h2 p hp).2.1, Nat.lt_of_lt_of_le (h2 p hp).2.2 hg.size⟩⟩
  have := hr b e'.symm
  have := h2 _ e
  simp at this
  omega
theorem Mid.alloc {w : World} {lo hi n c : Nat} {A : Option Addr} {xs : List Int} (h : Mid w lo hi A n c xs) (o : Obj) : Mid (w.alloc o) lo hi A n c xs :=
  ⟨h.1.alloc o, fun p hp => ⟨(h.2 p hp).1, (h.2 p hp).2.1, by have := (h.2 p hp).2.2; simp; omega⟩⟩
theorem Mid.of_row {w : World} {B lo hi n c : Nat} {A : Option Addr} {xs : List Int} (h : RowI w B (.slice A n c) n xs) (hlo : lo < B) (hhi : w.heap.size ≤ hi) : Mid w lo hi A n c xs := by
  obtain ⟨A', c', e, ho⟩ := h.own
  simp only [Value.slice.injEq] at e
  obtain ⟨rfl, _, rfl⟩ := e
  refine ⟨ho.ints, fun p hp => ?_⟩
  rcases ho with ⟨e, _⟩ | ⟨g, e, hg, hw⟩
  · rw [e] at hp; cases hp
  · rw [e] at hp; injection hp with hp
    subst hp
    have := hw.lt
    exact ⟨by simp; omega, by simp; omega, this⟩

theorem Mid.below {w w' : World} {lo hi n c : Nat} {A : Option Addr} {xs : List Int} (h : Mid w lo hi A n c xs) (hb : Below w.heap.size w w') : Mid w' lo hi A n c xs :=
  ⟨h.1.below hb, fun p hp => ⟨(h.2 p hp).1, (h.2 p hp).2.1, Nat.lt_of_lt_of_le (h.2 p hp).2.2 hb.size⟩⟩
/-- where the row of an order may lie: in its first block, or above all that is kept -/
def Out (w : World) (lo hi : Nat) (q n c : Nat) (xs : List Int) : Prop := RowI w lo (.slice (some ⟨q, 0, none⟩) n c) n xs ∧ (q ≤ lo ∨ hi ≤ q) ∧ n ≤ c ∧ c ≤ maxLen ∧ q < w.heap.size ∧ lo ≤ q
theorem Out.mk {w : World} {lo hi n : Nat} {v : Value} {xs : List Int} (h : RowI w lo v n xs) {q : Nat} (hq : v.ownBlock = some q) (hr : q ≤ lo ∨ hi ≤ q) : ∃ c, v = .slice (some ⟨q, 0, none⟩) n c ∧ Out w lo hi q n c xs := by
  obtain ⟨A, c, rfl, ho⟩ := h.own
  rcases ho with ⟨rfl, _⟩ | ⟨g, rfl, hg, hw⟩
  · cases hq
  · simp only [Value.ownBlock, Option.some.injEq] at hq
    subst hq
    exact ⟨c, rfl, h, hr, hw.ints.1, hw.ints.2.1, hw.lt, hg⟩
theorem Out.below {w w' : World} {lo hi q n c : Nat} {xs : List Int} (h : Out w lo hi q n c xs) (hb : Below w.heap.size w w') : Out w' lo hi q n c xs :=
  ⟨below_row h.1 hb, h.2.1, h.2.2.1, h.2.2.2.1, Nat.lt_of_lt_of_le h.2.2.2.2.1 hb.size, h.2.2.2.2.2⟩
theorem Out.pick {w w' : World} {lo hi q n c g : Nat} {xs : List Int} (h : Out w lo hi q n c xs) (hg : w.grownBy w' (some g)) (hB : g < lo) : Out w' lo hi q n c xs :=
  ⟨h.1.pick hg hB, h.2.1, h.2.2.1, h.2.2.2.1, Nat.lt_of_lt_of_le h.2.2.2.2.1 hg.size, h.2.2.2.2.2⟩
theorem Out.ints {w : World} {lo hi q n c : Nat} {xs : List Int} (h : Out w lo hi q n c xs) : Ints w (some ⟨q, 0, none⟩) n c xs := by
  obtain ⟨A, c', e, ho⟩ := h.1.own
  simp only [Value.slice.injEq] at e
  obtain ⟨rfl, _, rfl⟩ := e
  exact ho.ints
theorem row_lo {w : World} {B n : Nat} {v : Value} {xs : List Int} (h : RowI w B v n xs) : ∀ k, v.ownBlock = some k → B ≤ k := fun k hk => (h.lt k hk).1

def LeavPost (w : World) (B g N : Nat) (e : Ending) (w' : World) : Prop :=
  ∃ A n c xs, e = .returned (.slice A n c) ∧ Own w' w.heap.size A n c xs ∧ n ≤ 60 ∧ RdOk w' B g N ∧ w.grownBy w' (some g)

set_option maxHeartbeats 3200000 in
theorem l20Leaving_any (B g N : Nat) (hi : Int) (A : Option Addr) (m c : Nat) (sss : List (List Int)) (n : Int) (w : World) (h : RdOk w B g N) (hN : N ≤ 1000) (hn' : n ≤ 1000) (h' : IsStk w A m c sss) (hm : m ≤ 8) :
    Calls Try.prog 60 #[.pointer (some ⟨g, 0, none⟩), .agg #[.int .i64 hi, .slice A m c], .int .i64 n] w (LeavPost w B g (N + 100)) := by
  have hlt := h.lt
  have ne0 : ¬ w.heap.size = g := by omega
  have H := Lib.hid h'
  clear h'
  go_enter Try.func60, Try.ntmps60
  go_wp2_with (fail)
  have hrow0 : RowI ((w.alloc (.cells #[.int .i64 hi, .slice A m c] 27)).alloc (.cells #[] 3)) (w.heap.size + 1) (.slice (some ⟨w.heap.size + 1, 0, none⟩) 0 0) 0 [] := empty_row2 (w.heap.size + 1) (by simp) (by simp)
  have hon0 : w.grownBy ((w.alloc (.cells #[.int .i64 hi, .slice A m c] 27)).alloc (.cells #[] 3)) (some g) := only_alloc (only_alloc (World.grownBy.refl _ _) _) _
  refine (specYardIds_any _ _ _ _ _ _ ((H.out.alloc _).alloc _) (by omega)).mono ?_
  rintro e w1 ⟨v1, rfl, hr1, hb1⟩
  obtain ⟨m1, L, hL, hm1⟩ : ∃ m1 L, idsV hi sss = L ∧ L.length = m1 := ⟨_, _, rfl, rfl⟩
  have hm25 : m1 ≤ 25 := by rw [← hm1, ← hL]; exact idsV_len hi sss
  rw [hL, hm1] at hr1
  obtain ⟨Ai, ci, rfl, _⟩ := hr1.own
  simp at hr1
  have hrow1 := below_row hrow0 hb1
  have hon1 := only_below hb1 hon0
  have hrd1 := ((h.alloc _).alloc _).keep hb1
  have hs1 := hb1.size
  simp at hs1
  have hmid := Mid.of_row (lo := w.heap.size + 1) (hi := w1.heap.size) hr1 (by omega) (Nat.le_refl _)
  obtain ⟨G2, hG2⟩ : ∃ G2, w1.heap.size = G2 := ⟨_, rfl⟩
  rw [hG2] at hmid
  have hGw : G2 ≤ w1.heap.size := by omega
  have hG0 : w.heap.size + 2 ≤ G2 := by omega
  clear hrow0 hon0 hb1 hr1 hG2 h hL
  go_wp2_with (fail)
  go_loopw [7, 9] (fun v i wr => ∃ (k j M q c3 : Nat) (xs : List Int), i = .int .i64 (k : Int) ∧ k ≤ m1 ∧ v = .slice (some ⟨q, 0, none⟩) j c3 ∧ Out wr (w.heap.size + 1) G2 q j c3 xs ∧ j ≤ k ∧ Mid wr (w.heap.size + 1) G2 Ai m1 ci L ∧ RdOk wr B g M ∧ M ≤ N + 2 * k ∧ w.grownBy wr (some g) ∧ G2 ≤ wr.heap.size) (fun _ i _ => m1 - (intOf i).toNat)
  case atStart =>
    obtain ⟨c, e, ho⟩ := Out.mk (hi := G2) hrow1 (q := w.heap.size + 1) rfl (.inl (Nat.le_refl _))
    simp only [Value.slice.injEq, true_and] at e
    subst e
    exact ⟨0, 0, _, _, _, [], rfl, by omega, rfl, ho, by omega, hmid, hrd1, by omega, hon1, hGw⟩
  case round =>
    clear hrow1 hon1 hrd1 hmid hGw hs1
    obtain ⟨k, j, M, q, c3, xs, rfl, hk, rfl, ho, hjk, hmid, hrd, hM, hon, hGr⟩ := hrel
    have hsz := hon.size
    have hltr := hrd.lt
    by_cases hlt : k < m1
    · have hlt' : (k : Int) < m1 := by omega
      have hk0 : (0 : Int) ≤ k := by omega
      have Ho := Lib.hid ho
      have Hmid := Lib.hid hmid
      clear ho hmid
      go_wp2_with (fail)
      refine (pick_any _ _ _ _ _ (by repeat' (first | with_reducible assumption | with_reducible apply RdOk.alloc | with_reducible apply RdOk.drew | with_reducible apply RdOk.drewN | with_reducible apply RdOk.setCell | (simp; done) | (simp; omega) | omega)) (by omega)).mono ?_; rintro e w2 ⟨x2, rfl, hx2, hy2, hr2, hg2⟩; obtain ⟨hc2, hf2⟩ := gcell hg2; have z2 := hg2.size; (try simp at z2); have hl2 := hr2.lt; (have hn2 : ¬ w2.heap.size = g := by omega)
      have hon2 := only_step hg2 hon
      have Ho2 := Lib.hid (Ho.out.pick hg2 (by omega))
      have Hm2 := Lib.hid (Hmid.out.grown hg2 (by intro k e; injection e with e; omega))
      have hs2 := hg2.size
      clear hc2 hf2 hg2 hon Ho Hmid hrd
      by_cases hx : x2 = 0
      · subst hx
        go_wp2_with (fail)
        exact ⟨⟨k + 1, j, M + 1, q, c3, xs, by go_num, by omega, rfl, Ho2.out, by omega, Hm2.out, hr2, by omega, hon2, by omega⟩, by simp [intOf]; omega⟩
      · have hx0 : (0 : Int) < x2 := by omega
        have hw1 : IntKind.i64.wrap ((j : Int) + 1) = j + 1 := IntWalk.i64_in _ (by omega)
        go_wp2_with (fail)
        refine (pick_any _ _ _ _ _ (by repeat' (first | with_reducible assumption | with_reducible apply RdOk.alloc | with_reducible apply RdOk.drew | with_reducible apply RdOk.drewN | with_reducible apply RdOk.setCell | (simp; done) | (simp; omega) | omega)) (by omega)).mono ?_; rintro e w3 ⟨x3, rfl, hx3, hy3, hr3, hg3⟩; obtain ⟨hc3, hf3⟩ := gcell hg3; have z3 := hg3.size; (try simp at z3); have hl3 := hr3.lt; (have hn3 : ¬ w3.heap.size = g := by omega)
        have hon3 := only_step hg3 hon2
        have Ho3 := Lib.hid (Ho2.out.pick hg3 (by omega))
        have Hm3 := Lib.hid (Hm2.out.grown hg3 (by intro k e; injection e with e; omega))
        have hs3 := hg3.size
        clear hc3 hf3 hg3 hon2 Ho2 Hm2 hr2
        obtain ⟨at_, rfl⟩ := Int.eq_ofNat_of_zero_le hx3
        have hat : at_ ≤ j := by omega
        have hjc : j ≤ c3 := Ho3.out.2.2.1
        have hcm := Ho3.out.2.2.2.1
        have Hq3 := Lib.hid Ho3.out.2.2.2.2.1
        by_cases hca : c3 = at_
        · subst hca
          obtain rfl : j = c3 := by omega
          have hxs : Ints (w3.alloc (.cells #[] 3)) (some ⟨q, 0, none⟩) 0 0 [] := Ints.zero _ _ _ (by omega)
          have hI5 : Ints (w3.alloc (.cells #[] 3)) (some ⟨q, 0, none⟩) (0) (0) ([]) := hxs
          have HI5 := Lib.hid hI5
          clear hI5
          go_wp2_with (first
            | (at_builtin; refine wpList_ints_at rfl _ _ rfl w3.heap.size _ 0 [] rfl (empty_row (Nat.le_refl _)) (some ⟨q, 0, none⟩) (0) (0) ([]) rfl HI5.out (by omega) (le_alloc (Nat.le_refl _) _) ?_; intro v4 w4 hr4 hg4 _
               rw [List.nil_append, Nat.zero_add] at hr4
               have hb4 : Below w3.heap.size w3 w4 := below_append ((Below.refl _ _).alloc (Nat.le_refl _) _) (empty_row (Nat.le_refl _)) hg4 (le_alloc (Nat.le_refl _) _)
               have hon4 := only_below hb4 hon3
               have Ho4 := Lib.hid (Ho3.out.below hb4)
               have Hm4 := Lib.hid (Hm3.out.below hb4)
               have hr5 := hr3.keep hb4
               have hs4 := hb4.size
               obtain ⟨A6, c6, rfl, ho6⟩ := hr4.own
               clear hg4 hb4 ho6 hon3 Ho3 Hm3 hr3))
          obtain ⟨b1, o1, hAi, hb1, hcid⟩ := Hm4.out.1.at_ hlt
          obtain ⟨u, hu⟩ : ∃ u, L.getD k 0 = u := ⟨_, rfl⟩
          rw [hu] at hcid
          obtain ⟨hbl, hbh, _⟩ := Hm4.out.2 _ hAi
          simp at hbl hbh
          subst hAi
          have Ho5 : Out w4.drew (w.heap.size + 1) G2 q j j xs := Ho4.out
          have Hcut := Lib.hid (RowI.cut Ho5.1 hat)
          have Hm5 : Mid w4.drew (w.heap.size + 1) G2 (some ⟨b1, o1, none⟩) m1 ci L := Hm4.out
          have HM5 := Lib.hid Hm5
          have hr5d : RdOk w4.drew B g _ := hr5
          have hr4d : RowI w4.drew w3.heap.size (.slice A6 (0) c6) (0) ([]) := hr4
          have Hr4d := Lib.hid hr4d
          have hq := Ho5.2.1
          have hql : q < w3.heap.size := by have := Hq3.out; omega
          have hqg := Ho5.2.2.2.2.2
          have Hond := Lib.hid (only_drew hon4)
          have Hr5d := Lib.hid hr5d
          have hloB : w.heap.size + 1 ≤ w4.drew.heap.size := by have : w4.drew.heap.size = w4.heap.size := rfl; omega
          have hsd : w4.drew.heap.size = w4.heap.size := rfl
          have hnq : ¬ b1 = q := by omega
          have hcd : w4.drew.cell? ⟨b1, o1 + k, none⟩ = some (.int .i64 u) := hcid
          have hkm : (k : Int) ≤ ci := by have := HM5.out.1.1; omega
          clear Hm4 Hm5 Ho4 Ho5 hr5d hr4d hu hr4 hr5 hon4
          go_wp2_with (fail)
          go_region_held3 (fun w' => w'.cell? ⟨b1, o1 + k, none⟩ = some (.int .i64 u)) (first | (go_keep; done) | exact e5 | exact e6)
            (first
              | (refine step_ints_at rfl _ _ rfl (w.heap.size + 1) v5 (j + 1) (xs.take j ++ [u]) rfl hr5 A6 (0) c6 ([]) rfl hI6 (by omega) (by omega) ?_
                 intro v6 w6 hr6 hg6 hat6
                 have hlo5 := row_lo hr5
                 have hr56 : ∀ k, v5.ownBlock = some k → k ≤ w.heap.size + 1 ∨ G2 ≤ k := by intro k0 hk0; have := hq5 k0 hk0; omega
                 have hm6 := hm5.grown hg6 hr56
                 have hrd6 := hrd5.apart hg6 hlo5 (by omega)
                 have hon6 := only_apart hon5 hg6 hlo5 (by omega)
                 have hz6 := hg6.size
                 have hq6 : ∀ k, v6.ownBlock = some k → k ≤ w.heap.size + 1 ∨ G2 ≤ k := by
                   intro k0 hk0
                   rcases hat6 with e | e
                   · rw [e] at hk0; exact hr56 k0 hk0
                   · rw [e] at hk0; injection hk0 with hk0; omega
                 have e6 : w6.cell? ⟨b1, o1 + k, none⟩ = some (.int .i64 u) := (World.cell?_of_block (a := ⟨b1, o1 + k, none⟩) (hg6.block b1 (by omega) (fun e => by have := hr56 b1 e.symm; omega))).trans e5
                 obtain ⟨q6, hq6'⟩ : ∃ q6, v6.ownBlock = some q6 := by
                   rcases hat6 with e | e
                   · rcases hat5 with e' | e'
                     · exact ⟨q, by rw [e, e']; rfl⟩
                     · exact ⟨_, by rw [e, e']⟩
                   · exact ⟨_, e⟩
                 obtain ⟨c7, rfl, ho7⟩ := Out.mk hr6 hq6' (hq6 q6 hq6'))
              | (refine step_ints_at rfl _ _ rfl (w.heap.size + 1) _ j (xs.take j) rfl (Hcut.out.alloc _) (some ⟨w4.heap.size, 0, none⟩) 1 1 [u] rfl (one_ints w4.drew u) (by omega) (le_alloc hloB _) ?_
                 intro v5 w5 hr5 hg5 hat5
                 have hr5q : ∀ k, (Value.slice (some ⟨q, 0, none⟩) j j).ownBlock = some k → k = q := by intro k0 hk0; simpa [Value.ownBlock] using hk0.symm
                 have hm5 := (HM5.out.alloc (.cells #[.int .i64 u] 3)).grown hg5 (by intro k0 hk0; have := hr5q k0 hk0; omega)
                 have hrd5 := (Hr5d.out.alloc (.cells #[.int .i64 u] 3)).apart hg5 (B2 := w.heap.size + 1) (by intro k0 hk0; have := hr5q k0 hk0; omega) (by omega)
                 have hon5 := only_apart (only_alloc Hond.out (.cells #[.int .i64 u] 3)) hg5 (B2 := w.heap.size + 1) (by intro k0 hk0; have := hr5q k0 hk0; omega) (by omega)
                 have hz5 := hg5.size
                 simp at hz5
                 have hq5 : ∀ k, v5.ownBlock = some k → k = q ∨ k = w4.heap.size + 1 := by
                   intro k0 hk0
                   rcases hat5 with e | e
                   · rw [e] at hk0; exact .inl (hr5q k0 hk0)
                   · rw [e] at hk0; injection hk0 with hk0; simp at hk0; omega
                 have hI6 : Ints w5 A6 (0) c6 ([]) := by
                   have h1 := (Hr4d.out.alloc (.cells #[.int .i64 u] 3)).pick hg5 hql
                   obtain ⟨A7, c7, e, ho⟩ := h1.own
                   simp only [Value.slice.injEq] at e
                   obtain ⟨rfl, _, rfl⟩ := e
                   exact ho.ints
                 have e5 : w5.cell? ⟨b1, o1 + k, none⟩ = some (.int .i64 u) := (World.cell?_of_block (a := ⟨b1, o1 + k, none⟩) (hg5.block b1 (by simp; omega) (fun e => by have := hr5q b1 e.symm; omega))).trans ((World.cell?_of_block (a := ⟨b1, o1 + k, none⟩) (Below.heap_alloc w4.drew _ b1 (by omega))).trans hcd)))
          go_wp2_with (fail)
          exact ⟨⟨k + 1, j + 1 + (0), M + 1 + 1, q6, c7, _, by go_num, by omega, rfl, ho7, by omega, hm6, hrd6, by omega, hon6, by omega⟩, by simp [intOf]; omega⟩
        · have hkn : (at_ : Int) ≤ j := by omega
          have hnc : (j : Int) ≤ c3 := by omega
          have hac : (at_ : Int) ≤ c3 := by omega
          have hxs := (Ho3.out.ints.drop (k := at_) hat).alloc (.cells #[] 3)
          rw [Nat.zero_add] at hxs
          have hI5 : Ints (w3.alloc (.cells #[] 3)) (some ⟨q, at_, none⟩) (j - at_) (c3 - at_) (xs.drop at_) := hxs
          have HI5 := Lib.hid hI5
          clear hI5
          go_wp2_with (first
            | (at_builtin; refine wpList_ints_at rfl _ _ rfl w3.heap.size _ 0 [] rfl (empty_row (Nat.le_refl _)) (some ⟨q, at_, none⟩) (j - at_) (c3 - at_) (xs.drop at_) rfl HI5.out (by omega) (le_alloc (Nat.le_refl _) _) ?_; intro v4 w4 hr4 hg4 _
               rw [List.nil_append, Nat.zero_add] at hr4
               have hb4 : Below w3.heap.size w3 w4 := below_append ((Below.refl _ _).alloc (Nat.le_refl _) _) (empty_row (Nat.le_refl _)) hg4 (le_alloc (Nat.le_refl _) _)
               have hon4 := only_below hb4 hon3
               have Ho4 := Lib.hid (Ho3.out.below hb4)
               have Hm4 := Lib.hid (Hm3.out.below hb4)
               have hr5 := hr3.keep hb4
               have hs4 := hb4.size
               obtain ⟨A6, c6, rfl, ho6⟩ := hr4.own
               clear hg4 hb4 ho6 hon3 Ho3 Hm3 hr3))
          obtain ⟨b1, o1, hAi, hb1, hcid⟩ := Hm4.out.1.at_ hlt
          obtain ⟨u, hu⟩ : ∃ u, L.getD k 0 = u := ⟨_, rfl⟩
          rw [hu] at hcid
          obtain ⟨hbl, hbh, _⟩ := Hm4.out.2 _ hAi
          simp at hbl hbh
          subst hAi
          have Ho5 : Out w4.drew (w.heap.size + 1) G2 q j c3 xs := Ho4.out
          have Hcut := Lib.hid (RowI.cut Ho5.1 hat)
          have Hm5 : Mid w4.drew (w.heap.size + 1) G2 (some ⟨b1, o1, none⟩) m1 ci L := Hm4.out
          have HM5 := Lib.hid Hm5
          have hr5d : RdOk w4.drew B g _ := hr5
          have hr4d : RowI w4.drew w3.heap.size (.slice A6 (j - at_) c6) (j - at_) (xs.drop at_) := hr4
          have Hr4d := Lib.hid hr4d
          have hq := Ho5.2.1
          have hql : q < w3.heap.size := by have := Hq3.out; omega
          have hqg := Ho5.2.2.2.2.2
          have Hond := Lib.hid (only_drew hon4)
          have Hr5d := Lib.hid hr5d
          have hloB : w.heap.size + 1 ≤ w4.drew.heap.size := by have : w4.drew.heap.size = w4.heap.size := rfl; omega
          have hsd : w4.drew.heap.size = w4.heap.size := rfl
          have hnq : ¬ b1 = q := by omega
          have hcd : w4.drew.cell? ⟨b1, o1 + k, none⟩ = some (.int .i64 u) := hcid
          have hkm : (k : Int) ≤ ci := by have := HM5.out.1.1; omega
          clear Hm4 Hm5 Ho4 Ho5 hr5d hr4d hu hr4 hr5 hon4
          go_wp2_with (fail)
          go_region_held3 (fun w' => w'.cell? ⟨b1, o1 + k, none⟩ = some (.int .i64 u)) (first | (go_keep; done) | exact e5 | exact e6)
            (first
              | (refine step_ints_at rfl _ _ rfl (w.heap.size + 1) v5 (at_ + 1) (xs.take at_ ++ [u]) rfl hr5 A6 (j - at_) c6 (xs.drop at_) rfl hI6 (by omega) (by omega) ?_
                 intro v6 w6 hr6 hg6 hat6
                 have hlo5 := row_lo hr5
                 have hr56 : ∀ k, v5.ownBlock = some k → k ≤ w.heap.size + 1 ∨ G2 ≤ k := by intro k0 hk0; have := hq5 k0 hk0; omega
                 have hm6 := hm5.grown hg6 hr56
                 have hrd6 := hrd5.apart hg6 hlo5 (by omega)
                 have hon6 := only_apart hon5 hg6 hlo5 (by omega)
                 have hz6 := hg6.size
                 have hq6 : ∀ k, v6.ownBlock = some k → k ≤ w.heap.size + 1 ∨ G2 ≤ k := by
                   intro k0 hk0
                   rcases hat6 with e | e
                   · rw [e] at hk0; exact hr56 k0 hk0
                   · rw [e] at hk0; injection hk0 with hk0; omega
                 have e6 : w6.cell? ⟨b1, o1 + k, none⟩ = some (.int .i64 u) := (World.cell?_of_block (a := ⟨b1, o1 + k, none⟩) (hg6.block b1 (by omega) (fun e => by have := hr56 b1 e.symm; omega))).trans e5
                 obtain ⟨q6, hq6'⟩ : ∃ q6, v6.ownBlock = some q6 := by
                   rcases hat6 with e | e
                   · rcases hat5 with e' | e'
                     · exact ⟨q, by rw [e, e']; rfl⟩
                     · exact ⟨_, by rw [e, e']⟩
                   · exact ⟨_, e⟩
                 obtain ⟨c7, rfl, ho7⟩ := Out.mk hr6 hq6' (hq6 q6 hq6'))
              | (refine step_ints_at rfl _ _ rfl (w.heap.size + 1) _ at_ (xs.take at_) rfl (Hcut.out.alloc _) (some ⟨w4.heap.size, 0, none⟩) 1 1 [u] rfl (one_ints w4.drew u) (by omega) (le_alloc hloB _) ?_
                 intro v5 w5 hr5 hg5 hat5
                 have hr5q : ∀ k, (Value.slice (some ⟨q, 0, none⟩) at_ c3).ownBlock = some k → k = q := by intro k0 hk0; simpa [Value.ownBlock] using hk0.symm
                 have hm5 := (HM5.out.alloc (.cells #[.int .i64 u] 3)).grown hg5 (by intro k0 hk0; have := hr5q k0 hk0; omega)
                 have hrd5 := (Hr5d.out.alloc (.cells #[.int .i64 u] 3)).apart hg5 (B2 := w.heap.size + 1) (by intro k0 hk0; have := hr5q k0 hk0; omega) (by omega)
                 have hon5 := only_apart (only_alloc Hond.out (.cells #[.int .i64 u] 3)) hg5 (B2 := w.heap.size + 1) (by intro k0 hk0; have := hr5q k0 hk0; omega) (by omega)
                 have hz5 := hg5.size
                 simp at hz5
                 have hq5 : ∀ k, v5.ownBlock = some k → k = q ∨ k = w4.heap.size + 1 := by
                   intro k0 hk0
                   rcases hat5 with e | e
                   · rw [e] at hk0; exact .inl (hr5q k0 hk0)
                   · rw [e] at hk0; injection hk0 with hk0; simp at hk0; omega
                 have hI6 : Ints w5 A6 (j - at_) c6 (xs.drop at_) := by
                   have h1 := (Hr4d.out.alloc (.cells #[.int .i64 u] 3)).pick hg5 hql
                   obtain ⟨A7, c7, e, ho⟩ := h1.own
                   simp only [Value.slice.injEq] at e
                   obtain ⟨rfl, _, rfl⟩ := e
                   exact ho.ints
                 have e5 : w5.cell? ⟨b1, o1 + k, none⟩ = some (.int .i64 u) := (World.cell?_of_block (a := ⟨b1, o1 + k, none⟩) (hg5.block b1 (by simp; omega) (fun e => by have := hr5q b1 e.symm; omega))).trans ((World.cell?_of_block (a := ⟨b1, o1 + k, none⟩) (Below.heap_alloc w4.drew _ b1 (by omega))).trans hcd)))
          go_wp2_with (fail)
          exact ⟨⟨k + 1, at_ + 1 + (j - at_), M + 1 + 1, q6, c7, _, by go_num, by omega, rfl, ho7, by omega, hm6, hrd6, by omega, hon6, by omega⟩, by simp [intOf]; omega⟩
    · obtain rfl : k = m1 := by omega
      have Ho := Lib.hid ho
      have Hmid := Lib.hid hmid
      clear ho hmid
      go_wp2_with (fail)
      refine (odd_any _ _ _ _ _ (by repeat' (first | with_reducible assumption | with_reducible apply RdOk.alloc | with_reducible apply RdOk.drew | with_reducible apply RdOk.drewN | with_reducible apply RdOk.setCell | (simp; done) | (simp; omega) | omega)) (by omega) (by omega)).mono ?_; rintro e w2 ⟨x2, rfl, hr2, hg2⟩; obtain ⟨hc2, hf2⟩ := gcell hg2; have z2 := hg2.size; (try simp at z2); have hl2 := hr2.lt; (have hn2 : ¬ w2.heap.size = g := by omega)
      have hon2 := only_step hg2 hon
      have Ho2 := Lib.hid (Ho.out.pick hg2 (by omega))
      have hs2 := hg2.size
      clear hc2 hf2 hg2 hon Ho Hmid hrd
      cases x2 with
      | false =>
        go_wp2_with (fail)
        go_ret
        obtain ⟨A7, c7, e7, ho7⟩ := Ho2.out.1.own
        simp only [Value.slice.injEq, true_and] at e7
        obtain ⟨rfl, rfl⟩ := e7
        exact ⟨_, j, c3, xs, rfl, ho7.less (Nat.le_succ _), by omega, hr2.more (by omega), hon2⟩
      | true =>
        go_wp2_with (fail)
        refine (pick_any _ _ _ _ _ (by repeat' (first | with_reducible assumption | with_reducible apply RdOk.alloc | with_reducible apply RdOk.drew | with_reducible apply RdOk.drewN | with_reducible apply RdOk.setCell | (simp; done) | (simp; omega) | omega)) (by omega)).mono ?_; rintro e w3 ⟨x3, rfl, hx3, hy3, hr3, hg3⟩; obtain ⟨hc3, hf3⟩ := gcell hg3; have z3 := hg3.size; (try simp at z3); have hl3 := hr3.lt; (have hn3 : ¬ w3.heap.size = g := by omega); (have y3_0 : w2.heap.size < w3.heap.size := by omega)
        have Ho3 := Lib.hid ((Ho2.out.below ((Below.refl _ _).alloc (Nat.le_refl _) (.cells #[.int .i64 0, .int .i64 998, .int .i64 (max (k : Int) 1)] 3))).pick hg3 (by omega))
        have hon3 := only_step hg3 (only_alloc hon2 _)
        have hs3 := hg3.size
        simp at hs3
        have hB3 : w.heap.size + 1 ≤ w3.heap.size := by omega
        clear hg3 hon2 Ho2 hr2
        rcases (show x3 = 0 ∨ x3 = 1 ∨ x3 = 2 by omega) with rfl | rfl | rfl
        all_goals go_wp2_with (first
          | (at_builtin; refine wpList_ints_at rfl _ _ rfl (w.heap.size + 1) _ j xs rfl (Ho3.out.1.alloc _) (some ⟨w3.heap.size, 0, none⟩) 1 1 [_] rfl (one_ints w3 _) (by omega) (le_alloc hB3 _) ?_; intro v4 w4 hr4 hg4 _
             have hlo4 := row_lo (Ho3.out.1.alloc (.cells #[.int .i64 0] 3))
             have hon4 := only_apart (only_alloc hon3 _) hg4 hlo4 (by omega)
             have hrd4 := (hr3.alloc _).apart hg4 hlo4 (by omega)
             obtain ⟨A4, c4, rfl, ho4⟩ := hr4.own
             clear hg4))
        all_goals go_ret
        all_goals exact ⟨A4, _, c4, _, rfl, ho4.less (Nat.le_succ _), by omega, hrd4.more (by omega), hon4⟩
end Go.Proofs.Yteghialkkhmggaa
