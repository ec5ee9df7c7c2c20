/- The two YardFind; (Yard).find; slices.IndexFunc at its function. Conditions: that the slices read as lists. -/
import Derived.Test.YteghialkkhmggaaSeen
namespace Go.Proofs.Yteghialkkhmggaa
open Go.RowKit
set_option linter.unusedVariables false

/-- the first stack in which a number is, or -1 -/
def ixS : List (List Int) → Int → Int
  | [], _ => -1
  | s :: l, x => if hasB s x then 0 else if ixS l x < 0 then -1 else ixS l x + 1
def NoS (sss : List (List Int)) (x : Int) (k : Nat) : Prop := ∀ j, j < k → hasB (sss.getD j []) x = false
theorem NoS.zero (sss : List (List Int)) (x : Int) : NoS sss x 0 := fun j hj => absurd hj (by omega)
theorem NoS.succ {sss : List (List Int)} {x : Int} {k : Nat} (h : NoS sss x k) (hk : hasB (sss.getD k []) x = false) : NoS sss x (k + 1) := fun j hj => by
  rcases Nat.lt_or_ge j k with h1 | h1
  · exact h j h1
  · obtain rfl : j = k := by omega
    exact hk
theorem ixS_found (l : List (List Int)) (x : Int) (k : Nat) (hk : k < l.length) (hx : hasB (l.getD k []) x = true) (hn : NoS l x k) : ixS l x = k := by
  induction l generalizing k with
  | nil => simp at hk
  | cons s l ih =>
    cases k with
    | zero =>
      have h0 : hasB s x = true := hx
      simp [ixS, h0]
    | succ k =>
      have h0 : hasB s x = false := hn 0 (by omega)
      have h1 := ih k (by simpa using hk) hx (fun j hj => hn (j + 1) (by omega))
      simp only [ixS, h0, h1]
      rw [if_neg (by decide), if_neg (by omega)]
      omega
theorem ixS_none (l : List (List Int)) (x : Int) (hn : NoS l x l.length) : ixS l x = -1 := by
  induction l with
  | nil => rfl
  | cons s l ih =>
    have h0 : hasB s x = false := hn 0 (by simp)
    have h1 := ih (fun j hj => hn (j + 1) (by simpa using hj))
    simp only [ixS, h0, h1]
    simp
theorem ixS_ge (l : List (List Int)) (x : Int) : -1 ≤ ixS l x := by
  induction l with
  | nil => simp [ixS]
  | cons s l ih => simp only [ixS]; split <;> (try split) <;> omega
def findY (hi : Int) (sss : List (List Int)) (x : Int) : Int := if yardB hi sss then ixS sss x else -1

set_option maxHeartbeats 1600000 in
theorem specYardFind_any (hi : Int) (A : Option Addr) (n c : Nat) (sss : List (List Int)) (x : Int) (w : World) (h : IsStk w A n c sss) (hn : n ≤ 1048576) :
    Calls Try.prog 17 #[.agg #[.int .i64 hi, .slice A n c], .int .i64 x] w fun e w' => e = .returned (.int .i64 (findY hi sss x)) ∧ Below w.heap.size w w' := by
  have Hl := Lib.hid h.length
  have hlen := h.len
  have H := Lib.hid h
  clear h
  cases hv : yardB hi sss with
  | false =>
    have hfin : findY hi sss x = -1 := by simp [findY, hv]
    have Hfin := Lib.hid hfin
    clear hfin
    go_enter Try.func17, Try.ntmps17
    go_wp2_with (go_at_call 13; refine (specYardValid_any _ _ _ _ _ _ (H.out.alloc _) hn).mono ?_; rintro e w1 ⟨rfl, hb0⟩; rw [hv]; have hb1 : Below w.heap.size w w1 := (by repeat' (first | with_reducible exact Below.refl _ _ | with_reducible assumption | with_reducible refine bel_step (by with_reducible assumption) ?_ ?_ | with_reducible refine Below.drew ?_ | with_reducible refine below_drewN ?_ _ | with_reducible refine Below.alloc ?_ ?_ _ | with_reducible refine Below.setCell ?_ ?_ _ | (simp; done) | (simp; omega) | omega | with_reducible refine below_le (by with_reducible assumption) ?_)))
    go_ret
    exact ⟨ret_int (by rw [Hfin.out]), hb1⟩
  | true =>
    have hfin : findY hi sss x = ixS sss x := by simp [findY, hv]
    have Hfin := Lib.hid hfin
    clear hfin
    go_enter Try.func17, Try.ntmps17
    go_wp2_with (first
      | (go_at_call 13; refine (specYardValid_any _ _ _ _ _ _ (H.out.alloc _) hn).mono ?_; rintro e w1 ⟨rfl, hb0⟩; rw [hv]
         have hb1 : Below w.heap.size w w1 := (by repeat' (first | with_reducible exact Below.refl _ _ | with_reducible assumption | with_reducible refine bel_step (by with_reducible assumption) ?_ ?_ | with_reducible refine Below.drew ?_ | with_reducible refine below_drewN ?_ _ | with_reducible refine Below.alloc ?_ ?_ _ | with_reducible refine Below.setCell ?_ ?_ _ | (simp; done) | (simp; omega) | omega | with_reducible refine below_le (by with_reducible assumption) ?_))
         have hy1 : Yd w1 w.heap.size hi A n c := Yd.below (w := w.alloc _) ⟨by simp, by go_simp, by go_simp⟩ hb0
         clear hb0))
    go_loopw [5] (fun i wr => ∃ k : Nat, k ≤ n ∧ i = .int .i64 k ∧ NoS sss x k ∧ Yd wr w.heap.size hi A n c ∧ Below w.heap.size w wr) (fun i _ => n - (intOf i).toNat)
    case atStart => exact ⟨0, by omega, rfl, NoS.zero _ _, hy1, hb1⟩
    case round =>
      clear hy1 hb1
      obtain ⟨k, hk, rfl, hno, hyd, hbr⟩ := hrel
      have hsr := hbr.size
      have Hno := Lib.hid hno
      have Hyd := Lib.hid hyd
      obtain ⟨y3, p0, p1⟩ := id hyd
      clear hno hyd
      by_cases hlt : k < n
      · have hlt' : (k : Int) < n := by omega
        have hk0 : (0 : Int) ≤ k := by omega
        obtain ⟨b, off, Ai, ni, ci, hA, hb, hc0, hz⟩ := H.out.at_ hlt
        subst hA
        have hc := (hbr.cell (p := ⟨b, off + k, none⟩) hb).trans hc0
        have hz1 := hz.below hbr
        have hkx : k < sss.length := by rw [Hl.out]; exact hlt
        cases hxx : hasB (sss.getD k []) x with
        | true =>
          have hfin := ixS_found sss x k hkx hxx Hno.out
          have Hfin2 := Lib.hid hfin
          clear hfin hc0 hz
          go_wp2_with (go_at_call 40; refine (l1Has_any _ _ _ _ _ _ hz1).mono ?_; rintro e w1 ⟨rfl, rfl⟩; rw [hxx])
          go_ret
          exact ⟨ret_int (by rw [Hfin.out, Hfin2.out]), hbr⟩
        | false =>
          have hn1 := Hno.out.succ hxx
          have Hn1 := Lib.hid hn1
          clear hn1 hc0 hz
          go_wp2_with (go_at_call 40; refine (l1Has_any _ _ _ _ _ _ hz1).mono ?_; rintro e w1 ⟨rfl, rfl⟩; rw [hxx])
          exact ⟨⟨k + 1, by omega, by go_num, Hn1.out, Hyd.out, hbr⟩, by simp [intOf]; omega⟩
      · obtain rfl : k = n := by omega
        have hfin := ixS_none sss x (by rw [Hl.out]; exact Hno.out)
        have Hfin2 := Lib.hid hfin
        clear hfin
        go_wp2_with (fail)
        go_ret
        exact ⟨ret_int (by rw [Hfin.out, Hfin2.out]), hbr⟩

set_option maxHeartbeats 1600000 in
theorem hasIn_any (A : Option Addr) (n c : Nat) (xs : List Int) (x : Int) (g : Nat) (w : World) (h : Ints w A n c xs) (hg : g < w.heap.size) (hx : w.cell? ⟨g, 0, none⟩ = some (.int .i64 x)) :
    Calls Try.prog 64 #[.slice A n c, .pointer (some ⟨g, 0, none⟩)] w fun e w' => e = .returned (.bool (hasB xs x)) ∧ w = w' := by
  go_enter Try.func64, Try.ntmps64
  go_wp2_with (go_at_call 52; refine (contains_any _ _ _ _ _ _ h).mono ?_; rintro e w' ⟨rfl, rfl⟩)
  go_ret
  exact ⟨rfl, rfl⟩

set_option maxHeartbeats 1600000 in
theorem indexStk_any (A : Option Addr) (n c : Nat) (sss : List (List Int)) (x : Int) (g : Nat) (w : World) (h : IsStk w A n c sss) (hg : g < w.heap.size) (hx : w.cell? ⟨g, 0, none⟩ = some (.int .i64 x)) :
    Calls Try.prog 63 #[.slice A n c, .func (.func 64) #[] #[.pointer (some ⟨g, 0, none⟩)]] w fun e w' => e = .returned (.int .i64 (ixS sss x)) ∧ w = w' := by
  have hlen := h.len
  have Hl := Lib.hid h.length
  have H := Lib.hid h
  clear h
  go_enter Try.func63, Try.ntmps63
  go_wp2_with (fail)
  go_loop [8] (fun i => ∃ k : Nat, k ≤ n ∧ i = .int .i64 k ∧ NoS sss x k) (fun i => n - (intOf i).toNat)
  case atStart => exact ⟨0, by omega, rfl, NoS.zero _ _⟩
  case round =>
    obtain ⟨k, hk, rfl, hno⟩ := hrel
    have Hno := Lib.hid hno
    clear hno
    by_cases hlt : k < n
    · have hlt' : (k : Int) < n := by omega
      obtain ⟨b, off, Ai, ni, ci, hA, hb, hc, hz⟩ := H.out.at_ hlt
      subst hA
      have hkx : k < sss.length := by rw [Hl.out]; exact hlt
      cases hxx : hasB (sss.getD k []) x with
      | true =>
        have hfin := ixS_found sss x k hkx hxx Hno.out
        have Hfin := Lib.hid hfin
        clear hfin
        go_wp2_with (go_at_call 64; refine (hasIn_any _ _ _ _ x g _ hz hg hx).mono ?_; rintro e w1 ⟨rfl, rfl⟩; rw [hxx])
        go_ret
        exact ⟨ret_int (by rw [Hfin.out]), rfl⟩
      | false =>
        have hn1 := Hno.out.succ hxx
        have Hn1 := Lib.hid hn1
        clear hn1
        go_wp2_with (go_at_call 64; refine (hasIn_any _ _ _ _ x g _ hz hg hx).mono ?_; rintro e w1 ⟨rfl, rfl⟩; rw [hxx])
        exact ⟨⟨k + 1, by omega, by go_num, Hn1.out⟩, by simp [intOf]; omega⟩
    · obtain rfl : k = n := by omega
      have hfin := ixS_none sss x (by rw [Hl.out]; exact Hno.out)
      have Hfin := Lib.hid hfin
      clear hfin
      go_wp2_with (fail)
      go_ret
      exact ⟨ret_int (by rw [Hfin.out]), rfl⟩

set_option maxHeartbeats 800000 in
theorem find_any (hi : Int) (A : Option Addr) (n c : Nat) (sss : List (List Int)) (x : Int) (w : World) (h : IsStk w A n c sss) :
    Calls Try.prog 46 #[.agg #[.int .i64 hi, .slice A n c], .int .i64 x] w fun e w' => e = .returned (.int .i64 (ixS sss x)) ∧ Below w.heap.size w w' := by
  have H := Lib.hid h
  clear h
  go_enter Try.func46, Try.ntmps46
  have hb1 : Below w.heap.size w ((w.alloc (.cells #[.int .i64 hi, .slice A n c] 27)).alloc (.cells #[.int .i64 x] 3)) := ((Below.refl _ _).alloc (Nat.le_refl _) _).alloc (by simp) _
  go_wp2_with (fail)
  refine (indexStk_any _ _ _ _ x _ _ ((H.out.alloc _).alloc _) (by simp) (by go_simp)).mono ?_
  rintro e w1 ⟨rfl, rfl⟩
  go_wp2_with (fail)
  go_ret
  exact ⟨rfl, hb1⟩

set_option maxHeartbeats 800000 in
theorem implYardFind_any (hi : Int) (A : Option Addr) (n c : Nat) (sss : List (List Int)) (x : Int) (w : World) (h : IsStk w A n c sss) :
    Calls Try.prog 18 #[.agg #[.int .i64 hi, .slice A n c], .int .i64 x] w fun e w' => e = .returned (.int .i64 (findY hi sss x)) ∧ Below w.heap.size w w' := by
  have H := Lib.hid h
  clear h
  cases hv : yardB hi sss with
  | false =>
    have hfin : findY hi sss x = -1 := by simp [findY, hv]
    have Hfin := Lib.hid hfin
    clear hfin
    go_enter Try.func18, Try.ntmps18
    go_wp2_with (go_at_call 15; refine (implYardValid_any _ _ _ _ _ _ (H.out.alloc _)).mono ?_; rintro e w1 ⟨rfl, hb0⟩; rw [hv]; have hb1 : Below w.heap.size w w1 := (by repeat' (first | with_reducible exact Below.refl _ _ | with_reducible assumption | with_reducible refine bel_step (by with_reducible assumption) ?_ ?_ | with_reducible refine Below.drew ?_ | with_reducible refine below_drewN ?_ _ | with_reducible refine Below.alloc ?_ ?_ _ | with_reducible refine Below.setCell ?_ ?_ _ | (simp; done) | (simp; omega) | omega | with_reducible refine below_le (by with_reducible assumption) ?_)))
    go_ret
    exact ⟨ret_int (by rw [Hfin.out]), hb1⟩
  | true =>
    have hfin : findY hi sss x = ixS sss x := by simp [findY, hv]
    have Hfin := Lib.hid hfin
    clear hfin
    go_enter Try.func18, Try.ntmps18
    go_wp2_with (first
      | (go_at_call 15; refine (implYardValid_any _ _ _ _ _ _ (H.out.alloc _)).mono ?_; rintro e w1 ⟨rfl, hb0⟩; rw [hv]
         have hb1 : Below w.heap.size w w1 := (by repeat' (first | with_reducible exact Below.refl _ _ | with_reducible assumption | with_reducible refine bel_step (by with_reducible assumption) ?_ ?_ | with_reducible refine Below.drew ?_ | with_reducible refine below_drewN ?_ _ | with_reducible refine Below.alloc ?_ ?_ _ | with_reducible refine Below.setCell ?_ ?_ _ | (simp; done) | (simp; omega) | omega | with_reducible refine below_le (by with_reducible assumption) ?_))
         have hs1 := hb1.size
         have hI1 := H.out.below hb1
         have hy1 : Yd w1 w.heap.size hi A n c := Yd.below (w := w.alloc _) ⟨by simp, by go_simp, by go_simp⟩ hb0
         obtain ⟨y3, p0, p1⟩ := hy1
         clear hb0)
      | (go_at_call 46; refine (find_any _ _ _ _ _ _ _ hI1).mono ?_; rintro e w2 ⟨rfl, hb2⟩; have hb3 := hb1.trans (hb2.mono hs1)))
    go_ret
    exact ⟨ret_int (by rw [Hfin.out]), hb3⟩
end Go.Proofs.Yteghialkkhmggaa
