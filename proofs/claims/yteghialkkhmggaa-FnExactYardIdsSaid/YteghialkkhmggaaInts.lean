/- Slices of integers that read as lists: l1Has, slices.Index, slices.Contains, and the two StackValid. Conditions: that the slice reads as the list. -/
import Derived.Test.YteghialkkhmggaaWithin
namespace Go.Proofs.Yteghialkkhmggaa
open Go.RowKit
set_option linter.unusedVariables false

/-- the slice A, n, c reads as xs (nil is let in) -/
def Ints (w : World) (A : Option Addr) (n c : Nat) (xs : List Int) : Prop :=
  n ≤ c ∧ c ≤ maxLen ∧ xs.length = n ∧ (A = none → c = 0) ∧ (0 < n → ∃ b off, A = some ⟨b, off, none⟩ ∧ b < w.heap.size ∧ ∀ j, j < n → w.cell? ⟨b, off + j, none⟩ = some (.int .i64 (xs.getD j 0)))

theorem Ints.len {w : World} {A : Option Addr} {n c : Nat} {xs : List Int} (h : Ints w A n c xs) : (n : Int) ≤ 9223372036854775807 := by
  have h1 := h.1
  have h2 := h.2.1
  unfold maxLen at h2
  omega
theorem Ints.length {w : World} {A : Option Addr} {n c : Nat} {xs : List Int} (h : Ints w A n c xs) : xs.length = n := h.2.2.1
theorem Ints.nil (w : World) : Ints w none 0 0 [] := ⟨Nat.le_refl _, Nat.zero_le _, rfl, fun _ => rfl, fun h => absurd h (by omega)⟩
theorem Ints.keep {w w' : World} {A : Option Addr} {n c : Nat} {xs : List Int} (h : Ints w A n c xs) (hs : w.heap.size ≤ w'.heap.size) (hk : ∀ b o, A = some ⟨b, o, none⟩ → ∀ j, w'.cell? ⟨b, j, none⟩ = w.cell? ⟨b, j, none⟩) : Ints w' A n c xs := by
  obtain ⟨h1, h2, h3, h4, h5⟩ := h
  refine ⟨h1, h2, h3, h4, fun hn => ?_⟩
  obtain ⟨b, off, e, hlt, hc⟩ := h5 hn
  exact ⟨b, off, e, Nat.lt_of_lt_of_le hlt hs, fun j hj => (hk _ _ e _).trans (hc j hj)⟩
theorem Ints.below {w w' : World} {A : Option Addr} {n c : Nat} {xs : List Int} (h : Ints w A n c xs) (hb : Below w.heap.size w w') : Ints w' A n c xs := by
  obtain ⟨h1, h2, h3, h4, h5⟩ := h
  refine ⟨h1, h2, h3, h4, fun hn => ?_⟩
  obtain ⟨b, off, e, hlt, hc⟩ := h5 hn
  exact ⟨b, off, e, Nat.lt_of_lt_of_le hlt hb.size, fun j hj => (hb.cell (p := ⟨b, off + j, none⟩) hlt).trans (hc j hj)⟩
theorem Ints.alloc {w : World} {A : Option Addr} {n c : Nat} {xs : List Int} (h : Ints w A n c xs) (o : Obj) : Ints (w.alloc o) A n c xs := h.below ((Below.refl _ _).alloc (Nat.le_refl _) _)
theorem Ints.drew {w : World} {A : Option Addr} {n c : Nat} {xs : List Int} (h : Ints w A n c xs) : Ints w.drew A n c xs := h
theorem Ints.drewN {w : World} {A : Option Addr} {n c : Nat} {xs : List Int} (h : Ints w A n c xs) (k : Nat) : Ints (w.drewN k) A n c xs := h
theorem Ints.cut {w : World} {A : Option Addr} {n c : Nat} {xs : List Int} (h : Ints w A n c xs) {k : Nat} (hk : k ≤ n) : Ints w A k c (xs.take k) := by
  obtain ⟨h1, h2, h3, h4, h5⟩ := h
  refine ⟨by omega, h2, by rw [List.length_take]; omega, h4, fun hn => ?_⟩
  obtain ⟨b, off, e, hlt, hc⟩ := h5 (by omega)
  refine ⟨b, off, e, hlt, fun j hj => ?_⟩
  rw [hc j (by omega)]
  simp [List.getD, hj]
theorem Ints.at_ {w : World} {A : Option Addr} {n c : Nat} {xs : List Int} (h : Ints w A n c xs) {k : Nat} (hk : k < n) :
    ∃ b off, A = some ⟨b, off, none⟩ ∧ b < w.heap.size ∧ w.cell? ⟨b, off + k, none⟩ = some (.int .i64 (xs.getD k 0)) := by
  obtain ⟨b, off, e, hlt, hc⟩ := h.2.2.2.2 (by omega)
  exact ⟨b, off, e, hlt, hc k hk⟩
theorem Ints.of_row {w : World} {A : Option Addr} {n c : Nat} {zs : List Int} (h : IsRow .i64 w A n c zs) : Ints w A n c (zs.take n) := by
  rcases h with ⟨rfl, rfl, rfl, rfl⟩ | ⟨x, rfl, hl, hm, hz, hcell, hwz⟩
  · exact Ints.nil w
  · refine ⟨hl, hm, by rw [List.length_take]; omega, (fun h => by cases h), fun hn => ?_⟩
    obtain ⟨b, off, spot⟩ := x
    have hc0 := hcell 0 (by omega)
    have hspot : spot = none := by simpa [Addr.add] using World.cell?_spot hc0
    subst hspot
    have hb : b < w.heap.size := by simpa [Addr.add] using World.block_lt_of_cell? _ _ hc0
    refine ⟨b, off, rfl, hb, fun j hj => ?_⟩
    have hc := hcell j (by omega)
    have ea : (⟨b, off, none⟩ : Addr).add j = ⟨b, off + j, none⟩ := by
      unfold Addr.add
      by_cases h0 : j = 0
      · subst h0; simp
      · simp [h0]
    rw [ea] at hc
    rw [hc]
    simp [List.getD, hj]

/-- the index of a number in a list, or -1 -/
def ixOf : List Int → Int → Int
  | [], _ => -1
  | y :: l, x => if y = x then 0 else if ixOf l x < 0 then -1 else ixOf l x + 1
theorem ixOf_ge (l : List Int) (x : Int) : -1 ≤ ixOf l x := by
  induction l with
  | nil => simp [ixOf]
  | cons y l ih => simp only [ixOf]; split <;> (try split) <;> omega
theorem ixOf_lt (l : List Int) (x : Int) : ixOf l x < l.length := by
  induction l with
  | nil => simp [ixOf]
  | cons y l ih => simp only [ixOf, List.length_cons]; split <;> (try split) <;> omega
theorem ixOf_found (l : List Int) (x : Int) (k : Nat) (hk : k < l.length) (hx : l.getD k 0 = x) (hn : ∀ j, j < k → l.getD j 0 ≠ x) : ixOf l x = k := by
  induction l generalizing k with
  | nil => simp at hk
  | cons y l ih =>
    cases k with
    | zero =>
      have : y = x := by simpa using hx
      simp [ixOf, this]
    | succ k =>
      have h0 : ¬ y = x := by simpa using hn 0 (by omega)
      have := ih k (by simpa using hk) (by simpa using hx) (fun j hj => by simpa using hn (j + 1) (by omega))
      rw [ixOf, if_neg h0, this, if_neg (by omega)]
      omega
theorem ixOf_none (l : List Int) (x : Int) (hn : ∀ j, j < l.length → l.getD j 0 ≠ x) : ixOf l x = -1 := by
  induction l with
  | nil => rfl
  | cons y l ih =>
    have h0 : ¬ y = x := by simpa using hn 0 (by simp)
    have := ih (fun j hj => by simpa using hn (j + 1) (by simpa using hj))
    rw [ixOf, if_neg h0, this, if_pos (by omega)]
theorem ixOf_mem (l : List Int) (x : Int) : decide (0 ≤ ixOf l x) = l.contains x := by
  rw [Bool.eq_iff_iff, decide_eq_true_iff, List.contains_iff_mem]
  induction l with
  | nil => simp [ixOf]
  | cons y l ih =>
    simp only [ixOf, List.mem_cons]
    by_cases h : y = x
    · subst h; simp
    · rw [if_neg h, ← ih]
      have := ixOf_ge l x
      constructor
      · intro h'; right; split at h' <;> omega
      · rintro (h' | h')
        · exact absurd h'.symm h
        · rw [if_neg (by omega)]; omega
def hasB (l : List Int) (x : Int) : Bool := l.contains x
theorem has_found (l : List Int) (x : Int) (k : Nat) (hk : k < l.length) (hx : l.getD k 0 = x) : hasB l x = true := by
  unfold hasB
  rw [List.contains_iff_mem, ← hx]
  simp [List.getD, List.getElem?_eq_getElem hk]
theorem has_none (l : List Int) (x : Int) (hn : ∀ j, j < l.length → l.getD j 0 ≠ x) : hasB l x = false := by
  unfold hasB
  rw [← ixOf_mem, ixOf_none l x hn]; rfl

/-- none of the first k numbers is x -/
def NoX (xs : List Int) (x : Int) (k : Nat) : Prop := ∀ j, j < k → xs.getD j 0 ≠ x
theorem NoX.zero (xs : List Int) (x : Int) : NoX xs x 0 := fun j hj => absurd hj (by omega)
theorem NoX.succ {xs : List Int} {x : Int} {k : Nat} (h : NoX xs x k) (hk : xs.getD k 0 ≠ x) : NoX xs x (k + 1) := fun j hj => by
  rcases Nat.lt_or_ge j k with h1 | h1
  · exact h j h1
  · obtain rfl : j = k := by omega
    exact hk

set_option maxHeartbeats 400000 in
theorem l1Has_any (A : Option Addr) (n c : Nat) (xs : List Int) (x : Int) (w : World) (h : Ints w A n c xs) :
    Calls Try.prog 40 #[.slice A n c, .int .i64 x] w fun e w' => e = .returned (.bool (hasB xs x)) ∧ w = w' := by
  have hlen := h.len
  have Hl := Lib.hid h.length
  have H := Lib.hid h
  clear h
  go_enter Try.func40, Try.ntmps40
  go_wp2_with (fail)
  go_loop [5] (fun c => ∃ k : Nat, k ≤ n ∧ c = .int .i64 k ∧ NoX xs x k) (fun c => n - (intOf c).toNat)
  case atStart => exact ⟨0, by omega, rfl, NoX.zero _ _⟩
  case round =>
    obtain ⟨k, hk, rfl, hno⟩ := hrel
    have Hno := Lib.hid hno
    clear hno
    by_cases hlt : k < n
    · have hlt' : (k : Int) < n := by omega
      obtain ⟨b, off, hA, hb, hc⟩ := H.out.at_ hlt
      subst hA
      obtain ⟨v, hv⟩ : ∃ v, xs.getD k 0 = v := ⟨_, rfl⟩
      rw [hv] at hc
      have Hv := Lib.hid hv
      clear hv
      cases hx : (v == x) with
      | true =>
        have hfin := has_found xs x k (by rw [Hl.out]; exact hlt) (by rw [Hv.out]; exact beq_iff_eq.1 hx)
        have Hfin := Lib.hid hfin
        clear hfin
        go_wp2_with (fail)
        go_ret
        exact ⟨ret_bool (by rw [Hfin.out]), rfl⟩
      | false =>
        have hn1 := Hno.out.succ (by rw [Hv.out]; exact beq_eq_false_iff_ne.1 hx)
        have Hn1 := Lib.hid hn1
        clear hn1
        go_wp2_with (fail)
        exact ⟨⟨k + 1, by omega, by go_num, Hn1.out⟩, by simp [intOf]; omega⟩
    · obtain rfl : k = n := by omega
      have hfin := has_none xs x (by rw [Hl.out]; exact Hno.out)
      have Hfin := Lib.hid hfin
      clear hfin
      go_wp2_with (fail)
      go_ret
      exact ⟨ret_bool (by rw [Hfin.out]), rfl⟩
set_option maxHeartbeats 400000 in
theorem index_any (A : Option Addr) (n c : Nat) (xs : List Int) (x : Int) (w : World) (h : Ints w A n c xs) :
    Calls Try.prog 55 #[.slice A n c, .int .i64 x] w fun e w' => e = .returned (.int .i64 (ixOf xs x)) ∧ w = w' := by
  have hlen := h.len
  have Hl := Lib.hid h.length
  have H := Lib.hid h
  clear h
  go_enter Try.func55, Try.ntmps55
  go_wp2_with (fail)
  go_loop [8] (fun c => ∃ k : Nat, k ≤ n ∧ c = .int .i64 k ∧ NoX xs x k) (fun c => n - (intOf c).toNat)
  case atStart => exact ⟨0, by omega, rfl, NoX.zero _ _⟩
  case round =>
    obtain ⟨k, hk, rfl, hno⟩ := hrel
    have Hno := Lib.hid hno
    clear hno
    by_cases hlt : k < n
    · have hlt' : (k : Int) < n := by omega
      obtain ⟨b, off, hA, hb, hc⟩ := H.out.at_ hlt
      subst hA
      obtain ⟨v, hv⟩ : ∃ v, xs.getD k 0 = v := ⟨_, rfl⟩
      rw [hv] at hc
      have Hv := Lib.hid hv
      clear hv
      cases hx : (v == x) with
      | true =>
        have hx' : (x == v) = true := by rw [beq_iff_eq] at hx ⊢; exact hx.symm
        have hfin := ixOf_found xs x k (by rw [Hl.out]; exact hlt) (by rw [Hv.out]; exact beq_iff_eq.1 hx) Hno.out
        have Hfin := Lib.hid hfin
        clear hfin hx
        go_wp2_with (fail)
        go_ret
        exact ⟨ret_int (by rw [Hfin.out]), rfl⟩
      | false =>
        have hx' : (x == v) = false := by rw [beq_eq_false_iff_ne] at hx ⊢; exact fun e => hx e.symm
        have hn1 := Hno.out.succ (by rw [Hv.out]; exact beq_eq_false_iff_ne.1 hx)
        have Hn1 := Lib.hid hn1
        clear hn1 hx
        go_wp2_with (fail)
        exact ⟨⟨k + 1, by omega, by go_num, Hn1.out⟩, by simp [intOf]; omega⟩
    · obtain rfl : k = n := by omega
      have hfin := ixOf_none xs x (by rw [Hl.out]; exact Hno.out)
      have Hfin := Lib.hid hfin
      clear hfin
      go_wp2_with (fail)
      go_ret
      exact ⟨ret_int (by rw [Hfin.out]), rfl⟩
set_option maxHeartbeats 400000 in
theorem contains_any (A : Option Addr) (n c : Nat) (xs : List Int) (x : Int) (w : World) (h : Ints w A n c xs) :
    Calls Try.prog 52 #[.slice A n c, .int .i64 x] w fun e w' => e = .returned (.bool (hasB xs x)) ∧ w = w' := by
  have hm := ixOf_mem xs x
  have Hm := Lib.hid hm
  clear hm
  go_enter Try.func52, Try.ntmps52
  go_wp2_with (go_at_call 55; refine (index_any _ _ _ _ _ _ h).mono ?_; rintro e w' ⟨rfl, rfl⟩)
  go_ret
  exact ⟨ret_bool Hm.out, rfl⟩
/-- the first k ids are ids, and none comes twice -/
def okB (xs : List Int) (k : Nat) : Bool := (List.range k).all fun i => inR (xs.getD i 0) 1 999 && !hasB (xs.take i) (xs.getD i 0)
theorem okB_succ (xs : List Int) (k : Nat) : okB xs (k + 1) = (okB xs k && (inR (xs.getD k 0) 1 999 && !hasB (xs.take k) (xs.getD k 0))) := by
  simp [okB, List.range_succ]
theorem okB_le (xs : List Int) (k n : Nat) (h : k ≤ n) (hn : okB xs n = true) : okB xs k = true := by
  simp only [okB, List.all_eq_true, List.mem_range] at hn ⊢
  exact fun x hx => hn x (by omega)
def stackB (xs : List Int) (high : Int) : Bool := okB xs xs.length && inR high 1 5 && decide ((xs.length : Int) ≤ high)

set_option maxHeartbeats 800000 in
theorem implStackValid_any (A : Option Addr) (n c : Nat) (xs : List Int) (high : Int) (w : World) (h : Ints w A n c xs) :
    Calls Try.prog 44 #[.slice A n c, .int .i64 high] w fun e w' => e = .returned (.bool (stackB xs high)) ∧ w = w' := by
  have hlen := h.len
  have Hl := Lib.hid h.length
  have H := Lib.hid h
  clear h
  go_enter Try.func44, Try.ntmps44
  go_wp2_with (fail)
  go_loop [9] (fun c => ∃ k : Nat, k ≤ n ∧ c = .int .i64 k ∧ okB xs k = true) (fun c => n - (intOf c).toNat)
  case atStart => exact ⟨0, by omega, rfl, rfl⟩
  case round =>
    obtain ⟨k, hk, rfl, hok⟩ := hrel
    by_cases hlt : k < n
    · have hlt' : (k : Int) < n := by omega
      obtain ⟨b, off, hA, hb, hc⟩ := H.out.at_ hlt
      subst hA
      have hsu := okB_succ xs k
      rw [hok, Bool.true_and] at hsu
      obtain ⟨v, hv⟩ : ∃ v, xs.getD k 0 = v := ⟨_, rfl⟩
      rw [hv] at hc hsu
      have hno : okB xs (k + 1) = false → stackB xs high = false := by
        intro h
        have : okB xs xs.length = false := by
          cases h' : okB xs xs.length with
          | false => rfl
          | true => rw [okB_le xs (k + 1) xs.length (by rw [Hl.out]; omega) h'] at h; cases h
        simp [stackB, this]
      have hcut := H.out.cut (k := k) (by omega)
      have hkc : (k : Int) ≤ c := by have := H.out.1; omega
      have Hv := Lib.hid hv
      have Hno := Lib.hid hno
      have Hcut := Lib.hid hcut
      clear hv hno hok hcut
      obtain ⟨ys, hys⟩ : ∃ ys, xs.take k = ys := ⟨_, rfl⟩
      rw [hys] at hsu Hcut
      clear hys
      cases hi : inR v 1 999 with
      | false =>
        rw [hi, Bool.false_and] at hsu
        have Hsu := Lib.hid hsu
        clear hsu
        go_wp2_with (first
          | (go_at_call 62; refine (isId_any _ _).mono ?_; rintro e w' ⟨rfl, rfl⟩)
          | (go_at_call 52; refine (contains_any _ _ _ _ _ _ Hcut.out).mono ?_; rintro e w' ⟨rfl, rfl⟩))
        go_ret
        exact ⟨ret_bool (by rw [Hno.out Hsu.out]), rfl⟩
      | true =>
        cases hh : hasB ys v with
        | false =>
          rw [hi, hh] at hsu
          have Hsu := Lib.hid hsu
          clear hsu
          go_wp2_with (first
            | (go_at_call 62; refine (isId_any _ _).mono ?_; rintro e w' ⟨rfl, rfl⟩)
            | (go_at_call 52; refine (contains_any _ _ _ _ _ _ Hcut.out).mono ?_; rintro e w' ⟨rfl, rfl⟩))
          exact ⟨⟨k + 1, by omega, by go_num, Hsu.out⟩, by simp [intOf]; omega⟩
        | true =>
          rw [hi, hh] at hsu
          have Hsu := Lib.hid hsu
          clear hsu
          go_wp2_with (first
            | (go_at_call 62; refine (isId_any _ _).mono ?_; rintro e w' ⟨rfl, rfl⟩)
            | (go_at_call 52; refine (contains_any _ _ _ _ _ _ Hcut.out).mono ?_; rintro e w' ⟨rfl, rfl⟩))
          go_ret
          exact ⟨ret_bool (by rw [Hno.out Hsu.out]), rfl⟩
    · obtain rfl : k = n := by omega
      have hfin : stackB xs high = (inR high 1 5 && decide ((k : Int) ≤ high)) := by simp [stackB, Hl.out, hok]
      have Hfin := Lib.hid hfin
      clear hfin hok
      go_wp2_with (first
        | (go_at_call 43; refine (within_any _ _ _ _).mono ?_; rintro e w' ⟨rfl, rfl⟩))
      all_goals go_ret
      all_goals exact ⟨ret_bool (by rw [Hfin.out]; simp [*]), rfl⟩
set_option maxHeartbeats 1600000 in
theorem specStackValid_any (A : Option Addr) (n c0 : Nat) (xs : List Int) (high : Int) (w : World) (h : Ints w A n c0 xs) :
    Calls Try.prog 39 #[.slice A n c0, .int .i64 high] w fun e w' => e = .returned (.bool (stackB xs high)) ∧ Below w.heap.size w w' := by
  have hlen := h.len
  have Hl := Lib.hid h.length
  have H := Lib.hid h
  clear h
  go_enter Try.func39, Try.ntmps39
  go_wp2_with (fail)
  go_loopw [5] (fun c wr => ∃ k : Nat, k ≤ n ∧ c = .int .i64 k ∧ okB xs k = true ∧ Ints wr A n c0 xs ∧ Below w.heap.size w wr) (fun c _ => n - (intOf c).toNat)
  case atStart => exact ⟨0, by omega, rfl, rfl, H.out, Below.refl _ _⟩
  case round =>
    obtain ⟨k, hk, rfl, hok, hI, hbw⟩ := hrel
    clear H
    have H := Lib.hid hI
    clear hI
    by_cases hlt : k < n
    · have hlt' : (k : Int) < n := by omega
      obtain ⟨b, off, hA, hb, hc⟩ := H.out.at_ hlt
      subst hA
      have hsu := okB_succ xs k
      rw [hok, Bool.true_and] at hsu
      obtain ⟨v, hv⟩ : ∃ v, xs.getD k 0 = v := ⟨_, rfl⟩
      rw [hv] at hc hsu
      have hno : okB xs (k + 1) = false → stackB xs high = false := by
        intro h
        have : okB xs xs.length = false := by
          cases h' : okB xs xs.length with
          | false => rfl
          | true => rw [okB_le xs (k + 1) xs.length (by rw [Hl.out]; omega) h'] at h; cases h
        simp [stackB, this]
      have hcut := H.out.cut (k := k) (by omega)
      have hkc : (k : Int) ≤ c0 := by have := H.out.1; omega
      have hk0 : (0 : Int) ≤ k := by omega
      have Hno := Lib.hid hno
      have Hcut := Lib.hid hcut
      clear hv hno hok hcut
      obtain ⟨ys, hys⟩ : ∃ ys, xs.take k = ys := ⟨_, rfl⟩
      rw [hys] at hsu Hcut
      clear hys
      cases hi : inR v 1 999 with
      | false =>
        rw [hi, Bool.false_and] at hsu
        have Hsu := Lib.hid hsu
        clear hsu
        go_wp2_with (fail)
        go_quiet ((first
          | (go_at_call 41; exact Calls.quiet_of_same (quiet_l (l1In_any _ _ _ _)))
          | (go_at_call 40; exact Calls.quiet_of_same (quiet_l (l1Has_any _ _ _ _ _ _ Hcut.out)))))
        go_wp2
        go_ret
        exact ⟨ret_bool (by rw [Hno.out Hsu.out]), (by repeat' (first | with_reducible exact Below.refl _ _ | with_reducible assumption | with_reducible refine bel_step (by with_reducible assumption) ?_ ?_ | with_reducible refine Below.drew ?_ | with_reducible refine below_drewN ?_ _ | with_reducible refine Below.alloc ?_ ?_ _ | with_reducible refine Below.setCell ?_ ?_ _ | (simp; done) | (simp; omega) | omega | with_reducible refine below_le (by with_reducible assumption) ?_))⟩
      | true =>
        cases hh : hasB ys v with
        | false =>
          rw [hi, hh] at hsu
          have Hsu := Lib.hid hsu
          clear hsu
          go_wp2_with (fail)
          go_quiet ((first
            | (go_at_call 41; exact Calls.quiet_of_same (quiet_l (l1In_any _ _ _ _)))
            | (go_at_call 40; exact Calls.quiet_of_same (quiet_l (l1Has_any _ _ _ _ _ _ Hcut.out)))))
          go_wp2
          exact ⟨⟨k + 1, by omega, by go_num, Hsu.out, H.out.drewN _, (by repeat' (first | with_reducible exact Below.refl _ _ | with_reducible assumption | with_reducible refine bel_step (by with_reducible assumption) ?_ ?_ | with_reducible refine Below.drew ?_ | with_reducible refine below_drewN ?_ _ | with_reducible refine Below.alloc ?_ ?_ _ | with_reducible refine Below.setCell ?_ ?_ _ | (simp; done) | (simp; omega) | omega | with_reducible refine below_le (by with_reducible assumption) ?_))⟩, by simp [intOf]; omega⟩
        | true =>
          rw [hi, hh] at hsu
          have Hsu := Lib.hid hsu
          clear hsu
          go_wp2_with (fail)
          go_quiet ((first
            | (go_at_call 41; exact Calls.quiet_of_same (quiet_l (l1In_any _ _ _ _)))
            | (go_at_call 40; exact Calls.quiet_of_same (quiet_l (l1Has_any _ _ _ _ _ _ Hcut.out)))))
          go_wp2
          go_ret
          exact ⟨ret_bool (by rw [Hno.out Hsu.out]), (by repeat' (first | with_reducible exact Below.refl _ _ | with_reducible assumption | with_reducible refine bel_step (by with_reducible assumption) ?_ ?_ | with_reducible refine Below.drew ?_ | with_reducible refine below_drewN ?_ _ | with_reducible refine Below.alloc ?_ ?_ _ | with_reducible refine Below.setCell ?_ ?_ _ | (simp; done) | (simp; omega) | omega | with_reducible refine below_le (by with_reducible assumption) ?_))⟩
    · obtain rfl : k = n := by omega
      have hfin : stackB xs high = (inR high 1 5 && decide ((k : Int) ≤ high)) := by simp [stackB, Hl.out, hok]
      have Hfin := Lib.hid hfin
      clear hfin hok
      go_wp2_with (first
        | (go_at_call 41; refine (l1In_any _ _ _ _).mono ?_; rintro e w' ⟨rfl, rfl⟩))
      all_goals go_ret
      all_goals exact ⟨ret_bool (by rw [Hfin.out]; simp [*]), (by repeat' (first | with_reducible exact Below.refl _ _ | with_reducible assumption | with_reducible refine bel_step (by with_reducible assumption) ?_ ?_ | with_reducible refine Below.drew ?_ | with_reducible refine below_drewN ?_ _ | with_reducible refine Below.alloc ?_ ?_ _ | with_reducible refine Below.setCell ?_ ?_ _ | (simp; done) | (simp; omega) | omega | with_reducible refine below_le (by with_reducible assumption) ?_))⟩
end Go.Proofs.Yteghialkkhmggaa
