/- spec.ReadBox. (Printed by wip/genspecread2.py.) Conditions: the text is no longer than 1048577 bytes. -/
import Derived.Test.YtbhmbmfhbeocoaaDoorBxRd
namespace Go.Proofs.YtbhmbmfhbeocoaaDoor
open Go.RowKit
set_option linter.unusedVariables false

theorem cutGo_ne (sep : UInt8) : ∀ (l cur : List UInt8), cutGo sep cur l ≠ []
  | [], cur => by simp [cutGo]
  | b :: l, cur => by
    rw [cutGo]
    split
    · simp
    · exact cutGo_ne sep l _
theorem cutGo_len (sep : UInt8) : ∀ (l cur : List UInt8), ∀ x ∈ cutGo sep cur l, x.length ≤ cur.length + l.length
  | [], cur, x, h => by
    simp only [cutGo, List.mem_singleton] at h
    subst h
    simp
  | b :: l, cur, x, h => by
    rw [cutGo] at h
    split at h
    · rcases List.mem_cons.1 h with rfl | h
      · simp
      · have := cutGo_len sep l [] x h
        simp at this ⊢
        omega
    · have := cutGo_len sep l _ x h
      simp at this ⊢
      omega
theorem cut_size {sep : UInt8} {s : ByteArray} {ss : List ByteArray} (h : ss.map (fun x => x.data.toList) = cutL sep s.data.toList) : 1 ≤ ss.length ∧ ∀ x ∈ ss, x.size ≤ s.size := by
  constructor
  · have h1 := congrArg List.length h
    rw [List.length_map] at h1
    have h2 := cutGo_ne sep s.data.toList []
    have h3 : 0 < (cutL sep s.data.toList).length := List.length_pos_iff.2 h2
    omega
  · intro x hx
    have hm : x.data.toList ∈ cutL sep s.data.toList := by
      rw [← h]
      exact List.mem_map_of_mem hx
    have := cutGo_len sep _ _ _ hm
    rw [size_list, size_list] at this
    simpa using this
theorem RowT.slice {w : World} {B n : Nat} {v : Value} {ss : List ByteArray} (h : RowT w B v n ss) (hn : 0 < n) : ∃ g cap, v = .slice (some ⟨g, 0, none⟩) n cap ∧ B ≤ g ∧ g < w.heap.size ∧ ∀ j (hj : j < ss.length), w.cell? ⟨g, j, none⟩ = some (.string ss[j]) := by
  have hc := @World.ownsRow.cells
  rcases id h.2 with ⟨_, h0⟩ | ⟨g, cap, cur, rfl, hg, hh, h5⟩
  · omega
  · refine ⟨g, cap, rfl, hg, (Array.getElem?_eq_some_iff.1 hh).1, fun j hj => ?_⟩
    have := World.ownsRow.cells h (g := g) rfl j (.string ss[j]) (by rw [List.getElem?_map, List.getElem?_eq_getElem hj]; rfl)
    unfold Addr.add at this
    by_cases h0 : j = 0
    · subst h0; simpa using this
    · simpa [h0] using this
theorem BxVar.id {w : World} {g : Nat} {x : Bx} (h : BxVar w g x) (m : Int) : BxVar (w.setCell ⟨g, 0, none⟩ (.int .i64 m)) g { x with id := m } := by
  unfold BxVar at h ⊢
  simp [World.setCell, Array.getElem?_modify, h]
theorem BxVar.wt {w : World} {g : Nat} {x : Bx} (h : BxVar w g x) (m : Int) : BxVar (w.setCell ⟨g, 1, none⟩ (.int .i64 m)) g { x with wt := m } := by
  unfold BxVar at h ⊢
  simp [World.setCell, Array.getElem?_modify, h]
theorem BxVar.cl {w : World} {g : Nat} {x : Bx} (h : BxVar w g x) (m : Int) : BxVar (w.setCell ⟨g, 2, none⟩ (.int .i64 m)) g { x with cl := m } := by
  unfold BxVar at h ⊢
  simp [World.setCell, Array.getElem?_modify, h]
theorem BxVar.po {w : World} {g : Nat} {x : Bx} (h : BxVar w g x) (m : Int) : BxVar (w.setCell ⟨g, 3, none⟩ (.int .i64 m)) g { x with po := m } := by
  unfold BxVar at h ⊢
  simp [World.setCell, Array.getElem?_modify, h]
theorem BxVar.co {w : World} {g : Nat} {x : Bx} (h : BxVar w g x) (m : Bool) : BxVar (w.setCell ⟨g, 4, none⟩ (.bool m)) g { x with co := m } := by
  unfold BxVar at h ⊢
  simp [World.setCell, Array.getElem?_modify, h]
theorem BxVar.far {w : World} {g : Nat} {x : Bx} (h : BxVar w g x) {a : Addr} (ha : g ≠ a.block) (v : Value) : BxVar (w.setCell a v) g x := (Below.heap_setCell w a v g ha).trans h
theorem BxVar.new' (w : World) (g : Nat) (h : w.heap.size = g) : BxVar (w.alloc (.cells #[.int .i64 0, .int .i64 0, .int .i64 0, .int .i64 0, .bool false] 25)) g zeroB := by subst h; exact BxVar.new w

def parse3 (c : Bool) (a : List UInt8) (l : List (List UInt8)) : Option Bx :=
  match l with
  | [x, y, z] => some ⟨rdV a, rdV x, rdV y, rdV z, c⟩
  | _ => none
def parse2 (c : Bool) (l : List (List UInt8)) : Option Bx :=
  match l with
  | [a, r] => parse3 c a (cutL 47 r)
  | _ => none
theorem specParse_two (l : List UInt8) : specParse l = parse2 (endC l) (cutL 58 (stripC l)) := by
  unfold specParse parse2
  split
  · rename_i a r h
    rw [h]
    rfl
  · rename_i h
    split
    · rename_i a r h2
      exact absurd h2 (h a r)
    · rfl
theorem parse2_no {c : Bool} {l : List (List UInt8)} (h : l.length ≠ 2) : parse2 c l = none := by
  unfold parse2
  split
  · simp at h
  · rfl
theorem parse3_no {c : Bool} {a : List UInt8} {l : List (List UInt8)} (h : l.length ≠ 3) : parse3 c a l = none := by
  unfold parse3
  split
  · simp at h
  · rfl
theorem endC_at (s : ByteArray) (h : 0 < s.size) : endC s.data.toList = decide (s[s.size - 1]'(by omega) = 99) := by
  have hl := size_list s
  have e : s.data.toList.getLast? = some (s[s.size - 1]'(by omega)) := by
    rw [List.getLast?_eq_getElem?, hl, List.getElem?_eq_getElem (by omega)]
    rfl
  rw [endC, e]
  rw [Bool.eq_iff_iff, beq_iff_eq, decide_eq_true_iff]
  constructor
  · intro h
    exact Option.some.inj h
  · intro h
    rw [h]
theorem endC_none (s : ByteArray) (h : s.size = 0) : endC s.data.toList = false := by
  have hl := size_list s
  have : s.data.toList = [] := List.eq_nil_of_length_eq_zero (by omega)
  rw [this]
  rfl
theorem strip_yes (s : ByteArray) (h : endC s.data.toList = true) : stripC s.data.toList = (s.extract 0 (s.size - 1)).data.toList := by
  rw [stripC, if_pos h, extract_list, List.dropLast_eq_take, size_list, List.drop_zero]
  rfl
theorem strip_no (l : List UInt8) (h : endC l = false) : stripC l = l := by rw [stripC, h]; rfl

set_option maxHeartbeats 12800000 in
set_option maxRecDepth 20000 in
theorem specReadBox_any (s : ByteArray) (hs : s.size ≤ 1048577) (w : World) : Calls Tryd.prog 10 #[.string s] w (ReadPost w s.data.toList) := by
  have hread : lookB (specParse s.data.toList) s.data.toList = readB s.data.toList := rfl
  have Hread := Lib.hid hread
  have hvR0 : BxVar ((w.alloc (.cells #[.int .i64 0, .int .i64 0, .int .i64 0, .int .i64 0, .bool false] 25)).alloc (.cells #[.int .i64 0, .int .i64 0, .int .i64 0, .int .i64 0, .bool false] 25)) w.heap.size zeroB := (BxVar.new w).below ((Below.refl _ _).alloc (Nat.le_refl _) _)
  have hvB0 : BxVar ((w.alloc (.cells #[.int .i64 0, .int .i64 0, .int .i64 0, .int .i64 0, .bool false] 25)).alloc (.cells #[.int .i64 0, .int .i64 0, .int .i64 0, .int .i64 0, .bool false] 25)) (w.heap.size + 1) zeroB := BxVar.new' _ _ (by simp)
  have hb0 : Below w.heap.size w ((w.alloc (.cells #[.int .i64 0, .int .i64 0, .int .i64 0, .int .i64 0, .bool false] 25)).alloc (.cells #[.int .i64 0, .int .i64 0, .int .i64 0, .int .i64 0, .bool false] 25)) := ((Below.refl _ _).alloc (Nat.le_refl _) _).alloc (by simp) _
  have HvR0 := Lib.hid hvR0
  have HvB0 := Lib.hid hvB0
  have Hb0 := Lib.hid hb0
  clear hread hvR0 hvB0 hb0
  rcases Nat.eq_zero_or_pos s.size with h0 | h0
  · have Hend := Lib.hid (endC_none s h0)
    have Hstrip := Lib.hid (strip_no _ Hend.out)
    have hrs : s.size ≤ 2000000 := by omega
    have h0' : ¬ ((0 : Int) < (s.size : Int)) := by omega
    clear h0
    go_enter Tryd.func10, Tryd.ntmps10
    go_wp2_with (fail)
    have hvR := HvR0.out
    have hvB : BxVar _ (w.heap.size + 1) ⟨0, 0, 0, 0, false⟩ := HvB0.out
    have hb1 := Hb0.out
    clear HvR0 HvB0 Hb0
    have hsW := hb1.size
    have HvR := Lib.hid hvR
    have HvB := Lib.hid hvB
    have Hb1 := Lib.hid hb1
    clear hvR hvB hb1
    refine (l1Cut_any s 58 58 rfl hrs _).mono ?_
    rintro e w2 ⟨v2, ss2, rfl, hr2, hss2, hb2⟩
    obtain ⟨n2, hz2⟩ := cut_size hss2
    obtain ⟨g2, k2, rfl, hg2, hl2, hc2⟩ := hr2.slice (by omega)
    have hlB := HvB.out.lt
    have ne2 : ¬ g2 = w.heap.size + 1 := by omega
    clear hlB hg2
    have hvR := HvR.out.below hb2
    have hvB := HvB.out.below hb2
    have hlB := hvB.lt
    have hb3 := Hb1.out.trans (hb2.mono hsW)
    clear HvR HvB Hb1 hr2 hb2 hsW
    have hread := Hread.out
    rw [specParse_two, Hend.out, Hstrip.out, ← hss2] at hread
    by_cases h2 : ss2.length = 2
    · obtain ⟨t0, t1, rfl⟩ : ∃ t0 t1, ss2 = [t0, t1] := by
        match ss2, h2 with
        | [a, b], _ => exact ⟨a, b, rfl⟩
      have d0 := hc2 0 (by simp)
      have d1 := hc2 1 (by simp)
      simp only [List.getElem_cons_zero, List.getElem_cons_succ] at d0 d1
      have hz0 : t0.size ≤ 2000000 := by have := hz2 t0 (by simp); omega
      have hz1 : t1.size ≤ 2000000 := by have := hz2 t1 (by simp); omega
      have hread2 : lookB (parse3 false t0.data.toList (cutL 47 t1.data.toList)) s.data.toList = readB s.data.toList := hread
      have Hread2 := Lib.hid hread2
      have HvR := Lib.hid hvR
      have HvB := Lib.hid hvB
      clear hread hread2 hss2 h2 hz2 hc2 n2 hvR hvB
      try simp only [List.length_cons, List.length_nil, Nat.zero_add, Nat.reduceAdd]
      go_wp2_with (fail)
      refine (l1Cut_any t1 47 47 rfl hz1 _).mono ?_
      rintro e w3 ⟨v3, ss3, rfl, hr3, hss3, hb4⟩
      obtain ⟨n3, hz3⟩ := cut_size hss3
      obtain ⟨g3, k3, rfl, hg3, hl3, hc3⟩ := hr3.slice (by omega)
      have hvR := HvR.out.below hb4
      have hvB := HvB.out.below hb4
      have d0 := (hb4.cell (p := ⟨g2, 0, none⟩) hl2).trans d0
      have hb5 := hb3.trans (hb4.mono hb3.size)
      have hl2 := Nat.lt_of_lt_of_le hl2 hb4.size
      clear HvR HvB hr3 hb4 hb3 d1
      have hread := Hread2.out
      rw [← hss3] at hread
      by_cases h3 : ss3.length = 3
      · obtain ⟨u0, u1, u2, rfl⟩ : ∃ u0 u1 u2, ss3 = [u0, u1, u2] := by
          match ss3, h3 with
          | [a, b, d], _ => exact ⟨a, b, d, rfl⟩
        have f0 := hc3 0 (by simp)
        have f1 := hc3 1 (by simp)
        have f2 := hc3 2 (by simp)
        simp only [List.getElem_cons_zero, List.getElem_cons_succ] at f0 f1 f2
        have y0 := hz0
        obtain ⟨m0, hm0⟩ : ∃ m, rdV t0.data.toList = m := ⟨_, rfl⟩
        have R0 := Lib.hid (show ∀ W, Calls Tryd.prog 21 #[.string t0] W fun e w' => e = .returned (.int .i64 m0) ∧ W = w' from fun W => by rw [← hm0]; exact l1Read_any t0 y0 W)
        have y1 : u0.size ≤ 2000000 := by have := hz3 u0 (by simp); omega
        obtain ⟨m1, hm1⟩ : ∃ m, rdV u0.data.toList = m := ⟨_, rfl⟩
        have R1 := Lib.hid (show ∀ W, Calls Tryd.prog 21 #[.string u0] W fun e w' => e = .returned (.int .i64 m1) ∧ W = w' from fun W => by rw [← hm1]; exact l1Read_any u0 y1 W)
        have y2 : u1.size ≤ 2000000 := by have := hz3 u1 (by simp); omega
        obtain ⟨m2, hm2⟩ : ∃ m, rdV u1.data.toList = m := ⟨_, rfl⟩
        have R2 := Lib.hid (show ∀ W, Calls Tryd.prog 21 #[.string u1] W fun e w' => e = .returned (.int .i64 m2) ∧ W = w' from fun W => by rw [← hm2]; exact l1Read_any u1 y2 W)
        have y3 : u2.size ≤ 2000000 := by have := hz3 u2 (by simp); omega
        obtain ⟨m3, hm3⟩ : ∃ m, rdV u2.data.toList = m := ⟨_, rfl⟩
        have R3 := Lib.hid (show ∀ W, Calls Tryd.prog 21 #[.string u2] W fun e w' => e = .returned (.int .i64 m3) ∧ W = w' from fun W => by rw [← hm3]; exact l1Read_any u2 y3 W)
        have hread3 : lookB (some ⟨m0, m1, m2, m3, false⟩) s.data.toList = readB s.data.toList := by
          rw [← hread, ← hm0, ← hm1, ← hm2, ← hm3]
          rfl
        obtain ⟨T, hT⟩ : ∃ T, boxT ⟨m0, m1, m2, m3, false⟩ = T := ⟨_, rfl⟩
        have hlook : readB s.data.toList = if T = s then (⟨m0, m1, m2, m3, false⟩, true) else (zeroB, false) := by
          rw [← hread3, lookB, ← hT]
          have hiff : boxL ⟨m0, m1, m2, m3, false⟩ = s.data.toList ↔ boxT ⟨m0, m1, m2, m3, false⟩ = s := by
            rw [← boxT_list]
            constructor
            · intro h
              apply ByteArray.ext
              apply Array.ext'
              exact h
            · intro h
              rw [h]
          simp only [hiff]
        have Hlook := Lib.hid hlook
        obtain ⟨⟨q0, q1, q2, q3, q4⟩, z0, z1, z2, z3, z4⟩ := hvB.cells
        simp only at q0 q1 q2 q3 q4
        have HvR := Lib.hid hvR
        have HvB := Lib.hid hvB
        have ne3 : ¬ g3 = w.heap.size + 1 := by omega
        clear hg3 hlB
        clear hread hread3 hlook hss3 h3 hz3 hc3 n3 hvR hvB hm0 hm1 hm2 hm3 y0 y1 y2 y3 hz0 hz1 Hread2
        try simp only [List.length_cons, List.length_nil, Nat.zero_add, Nat.reduceAdd]
        go_wp2_with (fail)
        refine (R0.out _).mono ?_
        rintro e w40 ⟨rfl, rfl⟩
        go_wp2_with (fail)
        refine (R1.out _).mono ?_
        rintro e w41 ⟨rfl, rfl⟩
        go_wp2_with (fail)
        refine (R2.out _).mono ?_
        rintro e w42 ⟨rfl, rfl⟩
        go_wp2_with (fail)
        refine (R3.out _).mono ?_
        rintro e w43 ⟨rfl, rfl⟩
        go_wp2_with (fail)
        have hvB6 := (((HvB.out.id m0).wt m1).cl m2).po m3
        have hvR6 := (((HvR.out.far (a := ⟨w.heap.size + 1, 0, none⟩) (by simp) (.int .i64 m0)).far (a := ⟨w.heap.size + 1, 1, none⟩) (by simp) (.int .i64 m1)).far (a := ⟨w.heap.size + 1, 2, none⟩) (by simp) (.int .i64 m2)).far (a := ⟨w.heap.size + 1, 3, none⟩) (by simp) (.int .i64 m3)
        have hb6 : Below w.heap.size w ((((w3.setCell ⟨w.heap.size + 1, 0, none⟩ (.int .i64 m0)).setCell ⟨w.heap.size + 1, 1, none⟩ (.int .i64 m1)).setCell ⟨w.heap.size + 1, 2, none⟩ (.int .i64 m2)).setCell ⟨w.heap.size + 1, 3, none⟩ (.int .i64 m3)) := (((hb5.setCell (by simp) _).setCell (by simp) _).setCell (by simp) _).setCell (by simp) _
        refine (specBoxText_any _ _ _ _ _ _).mono ?_
        rintro e w5 ⟨rfl, hb7⟩
        rw [hT]
        have hv5 := hvR6.below hb7
        have hx6 := hvB6.below hb7
        have hb8 := hb6.trans (hb7.mono hb6.size)
        clear q0 q1 q2 q3 q4 z0 z1 z2 z3 z4 hvB6 hvR6 hb6 hb7 hT d0 f0 f1 f2 HvR HvB
        obtain ⟨⟨q0, q1, q2, q3, q4⟩, z0, z1, z2, z3, z4⟩ := hv5.cells
        obtain ⟨⟨r0, r1, r2, r3, r4⟩, _⟩ := hx6.cells
        simp only at r0 r1 r2 r3 r4
        clear hv5 hx6
        by_cases hq : T = s
        · subst hq
          have hl := Hlook.out
          rw [if_pos rfl] at hl
          have Hl := Lib.hid hl
          clear hl
          go_wp2_with (fail)
          refine bodyPost_ret (v := .tuple #[.agg #[.int .i64 m0, .int .i64 m1, .int .i64 m2, .int .i64 m3, .bool false], .bool true]) ?_ rfl ⟨by rw [Hl.out] <;> rfl, (by repeat' (first | with_reducible exact Below.refl _ _ | with_reducible assumption | with_reducible refine bel_step (by with_reducible assumption) ?_ ?_ | with_reducible refine Below.drew ?_ | with_reducible refine below_drewN ?_ _ | with_reducible refine Below.alloc ?_ ?_ _ | with_reducible refine Below.setCell ?_ ?_ _ | (simp; done) | (simp; omega) | omega | with_reducible refine below_le (by with_reducible assumption) ?_))⟩
          simp [results, Tryd.results10, go_sem, q0, q1, q2, q3, q4, zeroB]
        · have hl := Hlook.out
          rw [if_neg hq] at hl
          have Hl := Lib.hid hl
          have hne : (T.toList == s.toList) = false := by rw [str_beq', decide_eq_false hq]
          clear hl hq
          go_wp2_with (fail)
          refine bodyPost_ret (v := .tuple #[.agg #[.int .i64 0, .int .i64 0, .int .i64 0, .int .i64 0, .bool false], .bool false]) ?_ rfl ⟨by rw [Hl.out] <;> rfl, (by repeat' (first | with_reducible exact Below.refl _ _ | with_reducible assumption | with_reducible refine bel_step (by with_reducible assumption) ?_ ?_ | with_reducible refine Below.drew ?_ | with_reducible refine below_drewN ?_ _ | with_reducible refine Below.alloc ?_ ?_ _ | with_reducible refine Below.setCell ?_ ?_ _ | (simp; done) | (simp; omega) | omega | with_reducible refine below_le (by with_reducible assumption) ?_))⟩
          simp [results, Tryd.results10, go_sem, q0, q1, q2, q3, q4, zeroB]
      · have h3' : ¬ (ss3.length : Int) = 3 := by omega
        have hl : readB s.data.toList = (zeroB, false) := by
          rw [← hread, parse3_no (by rw [List.length_map]; exact h3)]
          rfl
        have Hl := Lib.hid hl
        obtain ⟨⟨q0, q1, q2, q3, q4⟩, z0, z1, z2, z3, z4⟩ := hvR.cells
        clear hl hread
        go_wp2_with (fail)
        refine bodyPost_ret (v := .tuple #[.agg #[.int .i64 0, .int .i64 0, .int .i64 0, .int .i64 0, .bool false], .bool false]) ?_ rfl ⟨by rw [Hl.out] <;> rfl, (by repeat' (first | with_reducible exact Below.refl _ _ | with_reducible assumption | with_reducible refine bel_step (by with_reducible assumption) ?_ ?_ | with_reducible refine Below.drew ?_ | with_reducible refine below_drewN ?_ _ | with_reducible refine Below.alloc ?_ ?_ _ | with_reducible refine Below.setCell ?_ ?_ _ | (simp; done) | (simp; omega) | omega | with_reducible refine below_le (by with_reducible assumption) ?_))⟩
        simp [results, Tryd.results10, go_sem, q0, q1, q2, q3, q4, zeroB]
    · have h2' : ¬ (ss2.length : Int) = 2 := by omega
      have hl : readB s.data.toList = (zeroB, false) := by
        rw [← hread, parse2_no (by rw [List.length_map]; exact h2)]
        rfl
      have Hl := Lib.hid hl
      obtain ⟨⟨q0, q1, q2, q3, q4⟩, z0, z1, z2, z3, z4⟩ := hvR.cells
      clear hl hread
      go_wp2_with (fail)
      refine bodyPost_ret (v := .tuple #[.agg #[.int .i64 0, .int .i64 0, .int .i64 0, .int .i64 0, .bool false], .bool false]) ?_ rfl ⟨by rw [Hl.out] <;> rfl, (by repeat' (first | with_reducible exact Below.refl _ _ | with_reducible assumption | with_reducible refine bel_step (by with_reducible assumption) ?_ ?_ | with_reducible refine Below.drew ?_ | with_reducible refine below_drewN ?_ _ | with_reducible refine Below.alloc ?_ ?_ _ | with_reducible refine Below.setCell ?_ ?_ _ | (simp; done) | (simp; omega) | omega | with_reducible refine below_le (by with_reducible assumption) ?_))⟩
      simp [results, Tryd.results10, go_sem, q0, q1, q2, q3, q4, zeroB]
  · have hend := endC_at s h0
    have h0' : (0 : Int) < (s.size : Int) := by omega
    have hw1 : IntKind.i64.wrap ((s.size : Int) - 1) = (s.size : Int) - 1 := IntWalk.i64_in _ (by omega)
    have i0 : (0 : Int) ≤ (s.size : Int) - 1 := by omega
    have i1 : (s.size : Int) - 1 < (s.size : Int) := by omega
    have i2 : (s.size : Int) - 1 ≤ (s.size : Int) := by omega
    have i3 : ((s.size : Int) - 1).toNat = s.size - 1 := by omega
    by_cases hb : s[s.size - 1]'(by omega) = 99
    · rw [decide_eq_true hb] at hend
      have Hend := Lib.hid hend
      have Hstrip := Lib.hid (strip_yes s hend)
      have hbi : ((s[s.size - 1]'(by omega)).toNat : Int) = 99 := by rw [hb]; rfl
      have hrs : (s.extract 0 (s.size - 1)).size ≤ 2000000 := by rw [ByteArray.size_extract]; omega
      obtain ⟨r, hr⟩ : ∃ r, s.extract 0 (s.size - 1) = r := ⟨_, rfl⟩
      rw [hr] at hrs Hstrip
      have hz := HvB0.out.cells.2.2.2.2.2
      have hz' := HvB0.out.cells.1.2.2.2.2
      clear hb hend
      go_enter Tryd.func10, Tryd.ntmps10
      go_wp2_with (fail)
      have hvR : BxVar ((w.alloc (.cells #[.int .i64 0, .int .i64 0, .int .i64 0, .int .i64 0, .bool false] 25)).alloc (.cells #[.int .i64 0, .int .i64 0, .int .i64 0, .int .i64 0, .bool true] 25)) w.heap.size zeroB := (BxVar.new w).below ((Below.refl _ _).alloc (Nat.le_refl _) _)
      have hvB : BxVar ((w.alloc (.cells #[.int .i64 0, .int .i64 0, .int .i64 0, .int .i64 0, .bool false] 25)).alloc (.cells #[.int .i64 0, .int .i64 0, .int .i64 0, .int .i64 0, .bool true] 25)) (w.heap.size + 1) ⟨0, 0, 0, 0, true⟩ := by
        unfold BxVar
        have := heap_alloc_new (w.alloc (.cells #[.int .i64 0, .int .i64 0, .int .i64 0, .int .i64 0, .bool false] 25)) (.cells #[.int .i64 0, .int .i64 0, .int .i64 0, .int .i64 0, .bool true] 25)
        simpa using this
      have hb1 : Below w.heap.size w ((w.alloc (.cells #[.int .i64 0, .int .i64 0, .int .i64 0, .int .i64 0, .bool false] 25)).alloc (.cells #[.int .i64 0, .int .i64 0, .int .i64 0, .int .i64 0, .bool true] 25)) := ((Below.refl _ _).alloc (Nat.le_refl _) _).alloc (by simp) _
      clear HvR0 HvB0 Hb0 hr hz hz'
      have hsW := hb1.size
      have HvR := Lib.hid hvR
      have HvB := Lib.hid hvB
      have Hb1 := Lib.hid hb1
      clear hvR hvB hb1
      refine (l1Cut_any r 58 58 rfl hrs _).mono ?_
      rintro e w2 ⟨v2, ss2, rfl, hr2, hss2, hb2⟩
      obtain ⟨n2, hz2⟩ := cut_size hss2
      obtain ⟨g2, k2, rfl, hg2, hl2, hc2⟩ := hr2.slice (by omega)
      have hlB := HvB.out.lt
      have ne2 : ¬ g2 = w.heap.size + 1 := by omega
      clear hlB hg2
      have hvR := HvR.out.below hb2
      have hvB := HvB.out.below hb2
      have hlB := hvB.lt
      have hb3 := Hb1.out.trans (hb2.mono hsW)
      clear HvR HvB Hb1 hr2 hb2 hsW
      have hread := Hread.out
      rw [specParse_two, Hend.out, Hstrip.out, ← hss2] at hread
      by_cases h2 : ss2.length = 2
      · obtain ⟨t0, t1, rfl⟩ : ∃ t0 t1, ss2 = [t0, t1] := by
          match ss2, h2 with
          | [a, b], _ => exact ⟨a, b, rfl⟩
        have d0 := hc2 0 (by simp)
        have d1 := hc2 1 (by simp)
        simp only [List.getElem_cons_zero, List.getElem_cons_succ] at d0 d1
        have hz0 : t0.size ≤ 2000000 := by have := hz2 t0 (by simp); omega
        have hz1 : t1.size ≤ 2000000 := by have := hz2 t1 (by simp); omega
        have hread2 : lookB (parse3 true t0.data.toList (cutL 47 t1.data.toList)) s.data.toList = readB s.data.toList := hread
        have Hread2 := Lib.hid hread2
        have HvR := Lib.hid hvR
        have HvB := Lib.hid hvB
        clear hread hread2 hss2 h2 hz2 hc2 n2 hvR hvB
        try simp only [List.length_cons, List.length_nil, Nat.zero_add, Nat.reduceAdd]
        go_wp2_with (fail)
        refine (l1Cut_any t1 47 47 rfl hz1 _).mono ?_
        rintro e w3 ⟨v3, ss3, rfl, hr3, hss3, hb4⟩
        obtain ⟨n3, hz3⟩ := cut_size hss3
        obtain ⟨g3, k3, rfl, hg3, hl3, hc3⟩ := hr3.slice (by omega)
        have hvR := HvR.out.below hb4
        have hvB := HvB.out.below hb4
        have d0 := (hb4.cell (p := ⟨g2, 0, none⟩) hl2).trans d0
        have hb5 := hb3.trans (hb4.mono hb3.size)
        have hl2 := Nat.lt_of_lt_of_le hl2 hb4.size
        clear HvR HvB hr3 hb4 hb3 d1
        have hread := Hread2.out
        rw [← hss3] at hread
        by_cases h3 : ss3.length = 3
        · obtain ⟨u0, u1, u2, rfl⟩ : ∃ u0 u1 u2, ss3 = [u0, u1, u2] := by
            match ss3, h3 with
            | [a, b, d], _ => exact ⟨a, b, d, rfl⟩
          have f0 := hc3 0 (by simp)
          have f1 := hc3 1 (by simp)
          have f2 := hc3 2 (by simp)
          simp only [List.getElem_cons_zero, List.getElem_cons_succ] at f0 f1 f2
          have y0 := hz0
          obtain ⟨m0, hm0⟩ : ∃ m, rdV t0.data.toList = m := ⟨_, rfl⟩
          have R0 := Lib.hid (show ∀ W, Calls Tryd.prog 21 #[.string t0] W fun e w' => e = .returned (.int .i64 m0) ∧ W = w' from fun W => by rw [← hm0]; exact l1Read_any t0 y0 W)
          have y1 : u0.size ≤ 2000000 := by have := hz3 u0 (by simp); omega
          obtain ⟨m1, hm1⟩ : ∃ m, rdV u0.data.toList = m := ⟨_, rfl⟩
          have R1 := Lib.hid (show ∀ W, Calls Tryd.prog 21 #[.string u0] W fun e w' => e = .returned (.int .i64 m1) ∧ W = w' from fun W => by rw [← hm1]; exact l1Read_any u0 y1 W)
          have y2 : u1.size ≤ 2000000 := by have := hz3 u1 (by simp); omega
          obtain ⟨m2, hm2⟩ : ∃ m, rdV u1.data.toList = m := ⟨_, rfl⟩
          have R2 := Lib.hid (show ∀ W, Calls Tryd.prog 21 #[.string u1] W fun e w' => e = .returned (.int .i64 m2) ∧ W = w' from fun W => by rw [← hm2]; exact l1Read_any u1 y2 W)
          have y3 : u2.size ≤ 2000000 := by have := hz3 u2 (by simp); omega
          obtain ⟨m3, hm3⟩ : ∃ m, rdV u2.data.toList = m := ⟨_, rfl⟩
          have R3 := Lib.hid (show ∀ W, Calls Tryd.prog 21 #[.string u2] W fun e w' => e = .returned (.int .i64 m3) ∧ W = w' from fun W => by rw [← hm3]; exact l1Read_any u2 y3 W)
          have hread3 : lookB (some ⟨m0, m1, m2, m3, true⟩) s.data.toList = readB s.data.toList := by
            rw [← hread, ← hm0, ← hm1, ← hm2, ← hm3]
            rfl
          obtain ⟨T, hT⟩ : ∃ T, boxT ⟨m0, m1, m2, m3, true⟩ = T := ⟨_, rfl⟩
          have hlook : readB s.data.toList = if T = s then (⟨m0, m1, m2, m3, true⟩, true) else (zeroB, false) := by
            rw [← hread3, lookB, ← hT]
            have hiff : boxL ⟨m0, m1, m2, m3, true⟩ = s.data.toList ↔ boxT ⟨m0, m1, m2, m3, true⟩ = s := by
              rw [← boxT_list]
              constructor
              · intro h
                apply ByteArray.ext
                apply Array.ext'
                exact h
              · intro h
                rw [h]
            simp only [hiff]
          have Hlook := Lib.hid hlook
          obtain ⟨⟨q0, q1, q2, q3, q4⟩, z0, z1, z2, z3, z4⟩ := hvB.cells
          simp only at q0 q1 q2 q3 q4
          have HvR := Lib.hid hvR
          have HvB := Lib.hid hvB
          have ne3 : ¬ g3 = w.heap.size + 1 := by omega
          clear hg3 hlB
          clear hread hread3 hlook hss3 h3 hz3 hc3 n3 hvR hvB hm0 hm1 hm2 hm3 y0 y1 y2 y3 hz0 hz1 Hread2
          try simp only [List.length_cons, List.length_nil, Nat.zero_add, Nat.reduceAdd]
          go_wp2_with (fail)
          refine (R0.out _).mono ?_
          rintro e w40 ⟨rfl, rfl⟩
          go_wp2_with (fail)
          refine (R1.out _).mono ?_
          rintro e w41 ⟨rfl, rfl⟩
          go_wp2_with (fail)
          refine (R2.out _).mono ?_
          rintro e w42 ⟨rfl, rfl⟩
          go_wp2_with (fail)
          refine (R3.out _).mono ?_
          rintro e w43 ⟨rfl, rfl⟩
          go_wp2_with (fail)
          have hvB6 := (((HvB.out.id m0).wt m1).cl m2).po m3
          have hvR6 := (((HvR.out.far (a := ⟨w.heap.size + 1, 0, none⟩) (by simp) (.int .i64 m0)).far (a := ⟨w.heap.size + 1, 1, none⟩) (by simp) (.int .i64 m1)).far (a := ⟨w.heap.size + 1, 2, none⟩) (by simp) (.int .i64 m2)).far (a := ⟨w.heap.size + 1, 3, none⟩) (by simp) (.int .i64 m3)
          have hb6 : Below w.heap.size w ((((w3.setCell ⟨w.heap.size + 1, 0, none⟩ (.int .i64 m0)).setCell ⟨w.heap.size + 1, 1, none⟩ (.int .i64 m1)).setCell ⟨w.heap.size + 1, 2, none⟩ (.int .i64 m2)).setCell ⟨w.heap.size + 1, 3, none⟩ (.int .i64 m3)) := (((hb5.setCell (by simp) _).setCell (by simp) _).setCell (by simp) _).setCell (by simp) _
          refine (specBoxText_any _ _ _ _ _ _).mono ?_
          rintro e w5 ⟨rfl, hb7⟩
          rw [hT]
          have hv5 := hvR6.below hb7
          have hx6 := hvB6.below hb7
          have hb8 := hb6.trans (hb7.mono hb6.size)
          clear q0 q1 q2 q3 q4 z0 z1 z2 z3 z4 hvB6 hvR6 hb6 hb7 hT d0 f0 f1 f2 HvR HvB
          obtain ⟨⟨q0, q1, q2, q3, q4⟩, z0, z1, z2, z3, z4⟩ := hv5.cells
          obtain ⟨⟨r0, r1, r2, r3, r4⟩, _⟩ := hx6.cells
          simp only at r0 r1 r2 r3 r4
          clear hv5 hx6
          by_cases hq : T = s
          · subst hq
            have hl := Hlook.out
            rw [if_pos rfl] at hl
            have Hl := Lib.hid hl
            clear hl
            go_wp2_with (fail)
            refine bodyPost_ret (v := .tuple #[.agg #[.int .i64 m0, .int .i64 m1, .int .i64 m2, .int .i64 m3, .bool true], .bool true]) ?_ rfl ⟨by rw [Hl.out] <;> rfl, (by repeat' (first | with_reducible exact Below.refl _ _ | with_reducible assumption | with_reducible refine bel_step (by with_reducible assumption) ?_ ?_ | with_reducible refine Below.drew ?_ | with_reducible refine below_drewN ?_ _ | with_reducible refine Below.alloc ?_ ?_ _ | with_reducible refine Below.setCell ?_ ?_ _ | (simp; done) | (simp; omega) | omega | with_reducible refine below_le (by with_reducible assumption) ?_))⟩
            simp [results, Tryd.results10, go_sem, q0, q1, q2, q3, q4, zeroB]
          · have hl := Hlook.out
            rw [if_neg hq] at hl
            have Hl := Lib.hid hl
            have hne : (T.toList == s.toList) = false := by rw [str_beq', decide_eq_false hq]
            clear hl hq
            go_wp2_with (fail)
            refine bodyPost_ret (v := .tuple #[.agg #[.int .i64 0, .int .i64 0, .int .i64 0, .int .i64 0, .bool false], .bool false]) ?_ rfl ⟨by rw [Hl.out] <;> rfl, (by repeat' (first | with_reducible exact Below.refl _ _ | with_reducible assumption | with_reducible refine bel_step (by with_reducible assumption) ?_ ?_ | with_reducible refine Below.drew ?_ | with_reducible refine below_drewN ?_ _ | with_reducible refine Below.alloc ?_ ?_ _ | with_reducible refine Below.setCell ?_ ?_ _ | (simp; done) | (simp; omega) | omega | with_reducible refine below_le (by with_reducible assumption) ?_))⟩
            simp [results, Tryd.results10, go_sem, q0, q1, q2, q3, q4, zeroB]
        · have h3' : ¬ (ss3.length : Int) = 3 := by omega
          have hl : readB s.data.toList = (zeroB, false) := by
            rw [← hread, parse3_no (by rw [List.length_map]; exact h3)]
            rfl
          have Hl := Lib.hid hl
          obtain ⟨⟨q0, q1, q2, q3, q4⟩, z0, z1, z2, z3, z4⟩ := hvR.cells
          clear hl hread
          go_wp2_with (fail)
          refine bodyPost_ret (v := .tuple #[.agg #[.int .i64 0, .int .i64 0, .int .i64 0, .int .i64 0, .bool false], .bool false]) ?_ rfl ⟨by rw [Hl.out] <;> rfl, (by repeat' (first | with_reducible exact Below.refl _ _ | with_reducible assumption | with_reducible refine bel_step (by with_reducible assumption) ?_ ?_ | with_reducible refine Below.drew ?_ | with_reducible refine below_drewN ?_ _ | with_reducible refine Below.alloc ?_ ?_ _ | with_reducible refine Below.setCell ?_ ?_ _ | (simp; done) | (simp; omega) | omega | with_reducible refine below_le (by with_reducible assumption) ?_))⟩
          simp [results, Tryd.results10, go_sem, q0, q1, q2, q3, q4, zeroB]
      · have h2' : ¬ (ss2.length : Int) = 2 := by omega
        have hl : readB s.data.toList = (zeroB, false) := by
          rw [← hread, parse2_no (by rw [List.length_map]; exact h2)]
          rfl
        have Hl := Lib.hid hl
        obtain ⟨⟨q0, q1, q2, q3, q4⟩, z0, z1, z2, z3, z4⟩ := hvR.cells
        clear hl hread
        go_wp2_with (fail)
        refine bodyPost_ret (v := .tuple #[.agg #[.int .i64 0, .int .i64 0, .int .i64 0, .int .i64 0, .bool false], .bool false]) ?_ rfl ⟨by rw [Hl.out] <;> rfl, (by repeat' (first | with_reducible exact Below.refl _ _ | with_reducible assumption | with_reducible refine bel_step (by with_reducible assumption) ?_ ?_ | with_reducible refine Below.drew ?_ | with_reducible refine below_drewN ?_ _ | with_reducible refine Below.alloc ?_ ?_ _ | with_reducible refine Below.setCell ?_ ?_ _ | (simp; done) | (simp; omega) | omega | with_reducible refine below_le (by with_reducible assumption) ?_))⟩
        simp [results, Tryd.results10, go_sem, q0, q1, q2, q3, q4, zeroB]
    · rw [decide_eq_false hb] at hend
      have Hend := Lib.hid hend
      have Hstrip := Lib.hid (strip_no _ hend)
      have hbi : (((s[s.size - 1]'(by omega)).toNat : Int) == 99) = false := by
        rw [beq_eq_false_iff_ne]
        intro h
        exact hb (UInt8.toNat_inj.1 (by have e : (99 : UInt8).toNat = 99 := rfl; omega))
      have hrs : s.size ≤ 2000000 := by omega
      clear hb hend
      go_enter Tryd.func10, Tryd.ntmps10
      go_wp2_with (fail)
      have hvR := HvR0.out
      have hvB : BxVar _ (w.heap.size + 1) ⟨0, 0, 0, 0, false⟩ := HvB0.out
      have hb1 := Hb0.out
      clear HvR0 HvB0 Hb0
      have hsW := hb1.size
      have HvR := Lib.hid hvR
      have HvB := Lib.hid hvB
      have Hb1 := Lib.hid hb1
      clear hvR hvB hb1
      refine (l1Cut_any s 58 58 rfl hrs _).mono ?_
      rintro e w2 ⟨v2, ss2, rfl, hr2, hss2, hb2⟩
      obtain ⟨n2, hz2⟩ := cut_size hss2
      obtain ⟨g2, k2, rfl, hg2, hl2, hc2⟩ := hr2.slice (by omega)
      have hlB := HvB.out.lt
      have ne2 : ¬ g2 = w.heap.size + 1 := by omega
      clear hlB hg2
      have hvR := HvR.out.below hb2
      have hvB := HvB.out.below hb2
      have hlB := hvB.lt
      have hb3 := Hb1.out.trans (hb2.mono hsW)
      clear HvR HvB Hb1 hr2 hb2 hsW
      have hread := Hread.out
      rw [specParse_two, Hend.out, Hstrip.out, ← hss2] at hread
      by_cases h2 : ss2.length = 2
      · obtain ⟨t0, t1, rfl⟩ : ∃ t0 t1, ss2 = [t0, t1] := by
          match ss2, h2 with
          | [a, b], _ => exact ⟨a, b, rfl⟩
        have d0 := hc2 0 (by simp)
        have d1 := hc2 1 (by simp)
        simp only [List.getElem_cons_zero, List.getElem_cons_succ] at d0 d1
        have hz0 : t0.size ≤ 2000000 := by have := hz2 t0 (by simp); omega
        have hz1 : t1.size ≤ 2000000 := by have := hz2 t1 (by simp); omega
        have hread2 : lookB (parse3 false t0.data.toList (cutL 47 t1.data.toList)) s.data.toList = readB s.data.toList := hread
        have Hread2 := Lib.hid hread2
        have HvR := Lib.hid hvR
        have HvB := Lib.hid hvB
        clear hread hread2 hss2 h2 hz2 hc2 n2 hvR hvB
        try simp only [List.length_cons, List.length_nil, Nat.zero_add, Nat.reduceAdd]
        go_wp2_with (fail)
        refine (l1Cut_any t1 47 47 rfl hz1 _).mono ?_
        rintro e w3 ⟨v3, ss3, rfl, hr3, hss3, hb4⟩
        obtain ⟨n3, hz3⟩ := cut_size hss3
        obtain ⟨g3, k3, rfl, hg3, hl3, hc3⟩ := hr3.slice (by omega)
        have hvR := HvR.out.below hb4
        have hvB := HvB.out.below hb4
        have d0 := (hb4.cell (p := ⟨g2, 0, none⟩) hl2).trans d0
        have hb5 := hb3.trans (hb4.mono hb3.size)
        have hl2 := Nat.lt_of_lt_of_le hl2 hb4.size
        clear HvR HvB hr3 hb4 hb3 d1
        have hread := Hread2.out
        rw [← hss3] at hread
        by_cases h3 : ss3.length = 3
        · obtain ⟨u0, u1, u2, rfl⟩ : ∃ u0 u1 u2, ss3 = [u0, u1, u2] := by
            match ss3, h3 with
            | [a, b, d], _ => exact ⟨a, b, d, rfl⟩
          have f0 := hc3 0 (by simp)
          have f1 := hc3 1 (by simp)
          have f2 := hc3 2 (by simp)
          simp only [List.getElem_cons_zero, List.getElem_cons_succ] at f0 f1 f2
          have y0 := hz0
          obtain ⟨m0, hm0⟩ : ∃ m, rdV t0.data.toList = m := ⟨_, rfl⟩
          have R0 := Lib.hid (show ∀ W, Calls Tryd.prog 21 #[.string t0] W fun e w' => e = .returned (.int .i64 m0) ∧ W = w' from fun W => by rw [← hm0]; exact l1Read_any t0 y0 W)
          have y1 : u0.size ≤ 2000000 := by have := hz3 u0 (by simp); omega
          obtain ⟨m1, hm1⟩ : ∃ m, rdV u0.data.toList = m := ⟨_, rfl⟩
          have R1 := Lib.hid (show ∀ W, Calls Tryd.prog 21 #[.string u0] W fun e w' => e = .returned (.int .i64 m1) ∧ W = w' from fun W => by rw [← hm1]; exact l1Read_any u0 y1 W)
          have y2 : u1.size ≤ 2000000 := by have := hz3 u1 (by simp); omega
          obtain ⟨m2, hm2⟩ : ∃ m, rdV u1.data.toList = m := ⟨_, rfl⟩
          have R2 := Lib.hid (show ∀ W, Calls Tryd.prog 21 #[.string u1] W fun e w' => e = .returned (.int .i64 m2) ∧ W = w' from fun W => by rw [← hm2]; exact l1Read_any u1 y2 W)
          have y3 : u2.size ≤ 2000000 := by have := hz3 u2 (by simp); omega
          obtain ⟨m3, hm3⟩ : ∃ m, rdV u2.data.toList = m := ⟨_, rfl⟩
          have R3 := Lib.hid (show ∀ W, Calls Tryd.prog 21 #[.string u2] W fun e w' => e = .returned (.int .i64 m3) ∧ W = w' from fun W => by rw [← hm3]; exact l1Read_any u2 y3 W)
          have hread3 : lookB (some ⟨m0, m1, m2, m3, false⟩) s.data.toList = readB s.data.toList := by
            rw [← hread, ← hm0, ← hm1, ← hm2, ← hm3]
            rfl
          obtain ⟨T, hT⟩ : ∃ T, boxT ⟨m0, m1, m2, m3, false⟩ = T := ⟨_, rfl⟩
          have hlook : readB s.data.toList = if T = s then (⟨m0, m1, m2, m3, false⟩, true) else (zeroB, false) := by
            rw [← hread3, lookB, ← hT]
            have hiff : boxL ⟨m0, m1, m2, m3, false⟩ = s.data.toList ↔ boxT ⟨m0, m1, m2, m3, false⟩ = s := by
              rw [← boxT_list]
              constructor
              · intro h
                apply ByteArray.ext
                apply Array.ext'
                exact h
              · intro h
                rw [h]
            simp only [hiff]
          have Hlook := Lib.hid hlook
          obtain ⟨⟨q0, q1, q2, q3, q4⟩, z0, z1, z2, z3, z4⟩ := hvB.cells
          simp only at q0 q1 q2 q3 q4
          have HvR := Lib.hid hvR
          have HvB := Lib.hid hvB
          have ne3 : ¬ g3 = w.heap.size + 1 := by omega
          clear hg3 hlB
          clear hread hread3 hlook hss3 h3 hz3 hc3 n3 hvR hvB hm0 hm1 hm2 hm3 y0 y1 y2 y3 hz0 hz1 Hread2
          try simp only [List.length_cons, List.length_nil, Nat.zero_add, Nat.reduceAdd]
          go_wp2_with (fail)
          refine (R0.out _).mono ?_
          rintro e w40 ⟨rfl, rfl⟩
          go_wp2_with (fail)
          refine (R1.out _).mono ?_
          rintro e w41 ⟨rfl, rfl⟩
          go_wp2_with (fail)
          refine (R2.out _).mono ?_
          rintro e w42 ⟨rfl, rfl⟩
          go_wp2_with (fail)
          refine (R3.out _).mono ?_
          rintro e w43 ⟨rfl, rfl⟩
          go_wp2_with (fail)
          have hvB6 := (((HvB.out.id m0).wt m1).cl m2).po m3
          have hvR6 := (((HvR.out.far (a := ⟨w.heap.size + 1, 0, none⟩) (by simp) (.int .i64 m0)).far (a := ⟨w.heap.size + 1, 1, none⟩) (by simp) (.int .i64 m1)).far (a := ⟨w.heap.size + 1, 2, none⟩) (by simp) (.int .i64 m2)).far (a := ⟨w.heap.size + 1, 3, none⟩) (by simp) (.int .i64 m3)
          have hb6 : Below w.heap.size w ((((w3.setCell ⟨w.heap.size + 1, 0, none⟩ (.int .i64 m0)).setCell ⟨w.heap.size + 1, 1, none⟩ (.int .i64 m1)).setCell ⟨w.heap.size + 1, 2, none⟩ (.int .i64 m2)).setCell ⟨w.heap.size + 1, 3, none⟩ (.int .i64 m3)) := (((hb5.setCell (by simp) _).setCell (by simp) _).setCell (by simp) _).setCell (by simp) _
          refine (specBoxText_any _ _ _ _ _ _).mono ?_
          rintro e w5 ⟨rfl, hb7⟩
          rw [hT]
          have hv5 := hvR6.below hb7
          have hx6 := hvB6.below hb7
          have hb8 := hb6.trans (hb7.mono hb6.size)
          clear q0 q1 q2 q3 q4 z0 z1 z2 z3 z4 hvB6 hvR6 hb6 hb7 hT d0 f0 f1 f2 HvR HvB
          obtain ⟨⟨q0, q1, q2, q3, q4⟩, z0, z1, z2, z3, z4⟩ := hv5.cells
          obtain ⟨⟨r0, r1, r2, r3, r4⟩, _⟩ := hx6.cells
          simp only at r0 r1 r2 r3 r4
          clear hv5 hx6
          by_cases hq : T = s
          · subst hq
            have hl := Hlook.out
            rw [if_pos rfl] at hl
            have Hl := Lib.hid hl
            clear hl
            go_wp2_with (fail)
            refine bodyPost_ret (v := .tuple #[.agg #[.int .i64 m0, .int .i64 m1, .int .i64 m2, .int .i64 m3, .bool false], .bool true]) ?_ rfl ⟨by rw [Hl.out] <;> rfl, (by repeat' (first | with_reducible exact Below.refl _ _ | with_reducible assumption | with_reducible refine bel_step (by with_reducible assumption) ?_ ?_ | with_reducible refine Below.drew ?_ | with_reducible refine below_drewN ?_ _ | with_reducible refine Below.alloc ?_ ?_ _ | with_reducible refine Below.setCell ?_ ?_ _ | (simp; done) | (simp; omega) | omega | with_reducible refine below_le (by with_reducible assumption) ?_))⟩
            simp [results, Tryd.results10, go_sem, q0, q1, q2, q3, q4, zeroB]
          · have hl := Hlook.out
            rw [if_neg hq] at hl
            have Hl := Lib.hid hl
            have hne : (T.toList == s.toList) = false := by rw [str_beq', decide_eq_false hq]
            clear hl hq
            go_wp2_with (fail)
            refine bodyPost_ret (v := .tuple #[.agg #[.int .i64 0, .int .i64 0, .int .i64 0, .int .i64 0, .bool false], .bool false]) ?_ rfl ⟨by rw [Hl.out] <;> rfl, (by repeat' (first | with_reducible exact Below.refl _ _ | with_reducible assumption | with_reducible refine bel_step (by with_reducible assumption) ?_ ?_ | with_reducible refine Below.drew ?_ | with_reducible refine below_drewN ?_ _ | with_reducible refine Below.alloc ?_ ?_ _ | with_reducible refine Below.setCell ?_ ?_ _ | (simp; done) | (simp; omega) | omega | with_reducible refine below_le (by with_reducible assumption) ?_))⟩
            simp [results, Tryd.results10, go_sem, q0, q1, q2, q3, q4, zeroB]
        · have h3' : ¬ (ss3.length : Int) = 3 := by omega
          have hl : readB s.data.toList = (zeroB, false) := by
            rw [← hread, parse3_no (by rw [List.length_map]; exact h3)]
            rfl
          have Hl := Lib.hid hl
          obtain ⟨⟨q0, q1, q2, q3, q4⟩, z0, z1, z2, z3, z4⟩ := hvR.cells
          clear hl hread
          go_wp2_with (fail)
          refine bodyPost_ret (v := .tuple #[.agg #[.int .i64 0, .int .i64 0, .int .i64 0, .int .i64 0, .bool false], .bool false]) ?_ rfl ⟨by rw [Hl.out] <;> rfl, (by repeat' (first | with_reducible exact Below.refl _ _ | with_reducible assumption | with_reducible refine bel_step (by with_reducible assumption) ?_ ?_ | with_reducible refine Below.drew ?_ | with_reducible refine below_drewN ?_ _ | with_reducible refine Below.alloc ?_ ?_ _ | with_reducible refine Below.setCell ?_ ?_ _ | (simp; done) | (simp; omega) | omega | with_reducible refine below_le (by with_reducible assumption) ?_))⟩
          simp [results, Tryd.results10, go_sem, q0, q1, q2, q3, q4, zeroB]
      · have h2' : ¬ (ss2.length : Int) = 2 := by omega
        have hl : readB s.data.toList = (zeroB, false) := by
          rw [← hread, parse2_no (by rw [List.length_map]; exact h2)]
          rfl
        have Hl := Lib.hid hl
        obtain ⟨⟨q0, q1, q2, q3, q4⟩, z0, z1, z2, z3, z4⟩ := hvR.cells
        clear hl hread
        go_wp2_with (fail)
        refine bodyPost_ret (v := .tuple #[.agg #[.int .i64 0, .int .i64 0, .int .i64 0, .int .i64 0, .bool false], .bool false]) ?_ rfl ⟨by rw [Hl.out] <;> rfl, (by repeat' (first | with_reducible exact Below.refl _ _ | with_reducible assumption | with_reducible refine bel_step (by with_reducible assumption) ?_ ?_ | with_reducible refine Below.drew ?_ | with_reducible refine below_drewN ?_ _ | with_reducible refine Below.alloc ?_ ?_ _ | with_reducible refine Below.setCell ?_ ?_ _ | (simp; done) | (simp; omega) | omega | with_reducible refine below_le (by with_reducible assumption) ?_))⟩
        simp [results, Tryd.results10, go_sem, q0, q1, q2, q3, q4, zeroB]
end Go.Proofs.YtbhmbmfhbeocoaaDoor
