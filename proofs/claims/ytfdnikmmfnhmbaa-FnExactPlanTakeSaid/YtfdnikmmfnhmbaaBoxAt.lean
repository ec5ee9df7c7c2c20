/- slices.IndexFunc at boxAt's function; boxAt. Conditions: that the slice reads as the list. -/
import Derived.Test.YtfdnikmmfnhmbaaBoxS
namespace Go.Proofs.Ytfdnikmmfnhmbaa
open Go.RowKit
set_option linter.unusedVariables false

set_option maxHeartbeats 800000 in
theorem isBox_any (id wt cl po : Int) (co : Bool) (x : Int) (g : Nat) (w : World) (hg : g < w.heap.size) (hx : w.cell? ⟨g, 0, none⟩ = some (.int .i64 x)) :
    Calls Try.prog 61 #[.agg #[.int .i64 id, .int .i64 wt, .int .i64 cl, .int .i64 po, .bool co], .pointer (some ⟨g, 0, none⟩)] w fun e w' => e = .returned (.bool (id == x)) ∧ Below w.heap.size w w' := by
  have hne : ¬ w.heap.size = g := by omega
  go_enter Try.func61, Try.ntmps61
  go_wp2_with (fail)
  go_ret
  exact ⟨rfl, (by repeat' (first | with_reducible exact Below.refl _ _ | with_reducible assumption | with_reducible refine bel_step (by with_reducible assumption) ?_ ?_ | with_reducible refine Below.drew ?_ | with_reducible refine below_drewN ?_ _ | with_reducible refine Below.alloc ?_ ?_ _ | with_reducible refine Below.setCell ?_ ?_ _ | (simp; done) | (simp; omega) | omega | with_reducible refine below_le (by with_reducible assumption) ?_))⟩

set_option maxHeartbeats 800000 in
theorem indexFunc_any (A : Option Addr) (n c : Nat) (bs : List Bx) (x : Int) (g : Nat) (w : World) (h : IsBoxes w A n c bs) (hg : g < w.heap.size) (hx : w.cell? ⟨g, 0, none⟩ = some (.int .i64 x)) :
    Calls Try.prog 60 #[.slice A n c, .func (.func 61) #[] #[.pointer (some ⟨g, 0, none⟩)]] w fun e w' => e = .returned (.int .i64 (ixOf (idsB bs) x)) ∧ Below w.heap.size w w' := by
  have hlen := h.len
  have Hl := Lib.hid h.length
  have H := Lib.hid h
  clear h
  go_enter Try.func60, Try.ntmps60
  go_wp2_with (fail)
  go_loopw [8] (fun i wr => ∃ k : Nat, k ≤ n ∧ i = .int .i64 k ∧ NoX (idsB bs) x k ∧ Below w.heap.size w wr) (fun i _ => n - (intOf i).toNat)
  case atStart => exact ⟨0, by omega, rfl, NoX.zero _ _, Below.refl _ _⟩
  case round =>
    obtain ⟨k, hk, rfl, hno, hbw⟩ := hrel
    have Hno := Lib.hid hno
    clear hno
    by_cases hlt : k < n
    · have hlt' : (k : Int) < n := by omega
      obtain ⟨b, off, hA, hb, hc⟩ := H.out.at_ hlt
      subst hA
      obtain ⟨hc0, hc1, hc2, hc3, hc4⟩ := hc
      have d0 := (hbw.cell (p := ⟨b, off + k * 5, none⟩) hb).trans hc0
      have d1 := (hbw.cell (p := ⟨b, off + k * 5 + 1, none⟩) hb).trans hc1
      have d2 := (hbw.cell (p := ⟨b, off + k * 5 + 2, none⟩) hb).trans hc2
      have d3 := (hbw.cell (p := ⟨b, off + k * 5 + 3, none⟩) hb).trans hc3
      have d4 := (hbw.cell (p := ⟨b, off + k * 5 + 4, none⟩) hb).trans hc4
      have hxw := (hbw.cell (p := ⟨g, 0, none⟩) hg).trans hx
      have hgw := Nat.lt_of_lt_of_le hg hbw.size
      have hsw := hbw.size
      have hid := idsB_get bs k (by rw [Hl.out]; exact hlt)
      obtain ⟨y, hy⟩ : ∃ y, bs.getD k default = y := ⟨_, rfl⟩
      rw [hy] at d0 d1 d2 d3 d4 hid
      have Hv := Lib.hid hid
      clear hy hid hc0 hc1 hc2 hc3 hc4
      cases hxx : (y.id == x) with
      | true =>
        have hfin := ixOf_found (idsB bs) x k (by rw [idsB_len, Hl.out]; exact hlt) (by rw [Hv.out]; exact beq_iff_eq.1 hxx) Hno.out
        have Hfin := Lib.hid hfin
        clear hfin
        go_wp2_with (go_at_call 61; refine (isBox_any _ _ _ _ _ x g _ hgw hxw).mono ?_; rintro e w1 ⟨rfl, hb1⟩; rw [hxx]; have hb2 := hbw.trans (hb1.mono hsw))
        go_ret
        exact ⟨ret_int (by rw [Hfin.out]), hb2⟩
      | false =>
        have hn1 := Hno.out.succ (by rw [Hv.out]; exact beq_eq_false_iff_ne.1 hxx)
        have Hn1 := Lib.hid hn1
        clear hn1
        go_wp2_with (go_at_call 61; refine (isBox_any _ _ _ _ _ x g _ hgw hxw).mono ?_; rintro e w1 ⟨rfl, hb1⟩; rw [hxx]; have hb2 := hbw.trans (hb1.mono hsw))
        exact ⟨⟨k + 1, by omega, by go_num, Hn1.out, hb2⟩, by simp [intOf]; omega⟩
    · obtain rfl : k = n := by omega
      have hfin := ixOf_none (idsB bs) x (by rw [idsB_len, Hl.out]; exact Hno.out)
      have Hfin := Lib.hid hfin
      clear hfin
      go_wp2_with (fail)
      go_ret
      exact ⟨ret_int (by rw [Hfin.out]), hbw⟩

theorem alloc_cell (w : World) (x : Int) : (w.alloc (.cells #[.int .i64 x] 3)).cell? ⟨w.heap.size, 0, none⟩ = some (.int .i64 x) := by
  simp only [World.cell?, heap_alloc_new w _]
  rfl
set_option maxHeartbeats 400000 in
theorem boxAt_any (A : Option Addr) (n c : Nat) (bs : List Bx) (x : Int) (w : World) (h : IsBoxes w A n c bs) :
    Calls Try.prog 45 #[.slice A n c, .int .i64 x] w fun e w' => e = .returned (.int .i64 (ixOf (idsB bs) x)) ∧ Below w.heap.size w w' := by
  have H := Lib.hid (h.alloc (.cells #[.int .i64 x] 3))
  have hb0 : Below w.heap.size w (w.alloc (.cells #[.int .i64 x] 3)) := (Below.refl _ _).alloc (Nat.le_refl _) _
  clear h
  go_enter Try.func45, Try.ntmps45
  go_wp2_with (fail)
  refine (indexFunc_any _ _ _ _ _ _ _ H.out (by simp) (alloc_cell w x)).mono ?_
  rintro e w1 ⟨rfl, hb1⟩
  have hb2 := hb0.trans (hb1.mono hb0.size)
  go_wp2_with (fail)
  go_ret
  exact ⟨rfl, hb2⟩

def bxB (y : Bx) : Bool := boxB y.id y.wt y.cl y.po
/-- the first k boxes are valid, no two with one id -/
def okBB (bs : List Bx) (k : Nat) : Bool := (List.range k).all fun i => bxB (bs.getD i default) && decide (ixOf (idsB (bs.take i)) (bs.getD i default).id < 0)
theorem okBB_succ (bs : List Bx) (k : Nat) : okBB bs (k + 1) = (okBB bs k && (bxB (bs.getD k default) && decide (ixOf (idsB (bs.take k)) (bs.getD k default).id < 0))) := by
  simp [okBB, List.range_succ]
theorem okBB_le (bs : List Bx) (k n : Nat) (h : k ≤ n) (hn : okBB bs n = true) : okBB bs k = true := by
  simp only [okBB, List.all_eq_true, List.mem_range] at hn ⊢
  exact fun x hx => hn x (by omega)
def boxesB (bs : List Bx) : Bool := okBB bs bs.length && decide (bs.length ≤ 10)
theorem boxesB_no (bs : List Bx) (k : Nat) (hk : k < bs.length) (h : okBB bs (k + 1) = false) : boxesB bs = false := by
  cases e : boxesB bs with
  | false => rfl
  | true =>
    simp only [boxesB, Bool.and_eq_true] at e
    rw [okBB_le bs (k + 1) _ (by omega) e.1] at h
    cases h
end Go.Proofs.Ytfdnikmmfnhmbaa
