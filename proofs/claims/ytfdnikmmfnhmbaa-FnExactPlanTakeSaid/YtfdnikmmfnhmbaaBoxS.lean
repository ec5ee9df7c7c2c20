/- Slices of boxes that read as lists: l2Find, slices.IndexFunc at boxAt's function, boxAt, the two BoxesValid. Conditions: that the slice reads as the list. -/
import Derived.Test.YtfdnikmmfnhmbaaStructs
import Derived.Test.YtfdnikmmfnhmbaaBox
import Derived.Test.YtfdnikmmfnhmbaaInts
namespace Go.Proofs.Ytfdnikmmfnhmbaa
open Go.RowKit
set_option linter.unusedVariables false

theorem IsBoxes.len {w : World} {A : Option Addr} {n c : Nat} {bs : List Bx} (h : IsBoxes w A n c bs) : (n : Int) ≤ 9223372036854775807 := by
  have h1 := h.1
  have h2 := h.2.1
  unfold maxLen at h2
  omega
theorem IsBoxes.length {w : World} {A : Option Addr} {n c : Nat} {bs : List Bx} (h : IsBoxes w A n c bs) : bs.length = n := h.2.2.1
theorem IsBoxes.at_ {w : World} {A : Option Addr} {n c : Nat} {bs : List Bx} (h : IsBoxes w A n c bs) {k : Nat} (hk : k < n) :
    ∃ b off, A = some ⟨b, off, none⟩ ∧ b < w.heap.size ∧ BoxAt w b (off + k * 5) (bs.getD k default) := by
  obtain ⟨b, off, e, hb, hc⟩ := h.2.2.2.2 (by omega)
  exact ⟨b, off, e, hb, hc k hk⟩
theorem IsBoxes.cut {w : World} {A : Option Addr} {n c : Nat} {bs : List Bx} (h : IsBoxes w A n c bs) {k : Nat} (hk : k ≤ n) : IsBoxes w A k c (bs.take k) := by
  obtain ⟨h1, h2, h3, h4, h5⟩ := h
  refine ⟨by omega, h2, by rw [List.length_take]; omega, h4, fun hn => ?_⟩
  obtain ⟨b, off, e, hlt, hc⟩ := h5 (by omega)
  refine ⟨b, off, e, hlt, fun j hj => ?_⟩
  have := hc j (by omega)
  simpa [List.getD, hj] using this

def idsB (bs : List Bx) : List Int := bs.map Bx.id
theorem idsB_get (bs : List Bx) (k : Nat) (h : k < bs.length) : (idsB bs).getD k 0 = (bs.getD k default).id := by simp [idsB, List.getD, h]
theorem idsB_len (bs : List Bx) : (idsB bs).length = bs.length := by simp [idsB]

set_option maxHeartbeats 800000 in
theorem l2Find_any (A : Option Addr) (n c : Nat) (bs : List Bx) (x : Int) (w : World) (h : IsBoxes w A n c bs) :
    Calls Try.prog 41 #[.slice A n c, .int .i64 x] w fun e w' => e = .returned (.int .i64 (ixOf (idsB bs) x)) ∧ w = w' := by
  have hlen := h.len
  have Hl := Lib.hid h.length
  have H := Lib.hid h
  clear h
  go_enter Try.func41, Try.ntmps41
  go_wp2_with (fail)
  go_loop [5] (fun c => ∃ k : Nat, k ≤ n ∧ c = .int .i64 k ∧ NoX (idsB bs) x k) (fun c => n - (intOf c).toNat)
  case atStart => exact ⟨0, by omega, rfl, NoX.zero _ _⟩
  case round =>
    obtain ⟨k, hk, rfl, hno⟩ := hrel
    have Hno := Lib.hid hno
    clear hno
    by_cases hlt : k < n
    · have hlt' : (k : Int) < n := by omega
      obtain ⟨b, off, hA, hb, hc⟩ := H.out.at_ hlt
      subst hA
      obtain ⟨hc0, hc1, hc2, hc3, hc4⟩ := hc
      have hid := idsB_get bs k (by rw [Hl.out]; exact hlt)
      obtain ⟨v, hv⟩ : ∃ v, (bs.getD k default).id = v := ⟨_, rfl⟩
      rw [hv] at hc0 hid
      have Hv := Lib.hid hid
      clear hv hid
      cases hx : (v == x) with
      | true =>
        have hfin := ixOf_found (idsB bs) x k (by rw [idsB_len, Hl.out]; exact hlt) (by rw [Hv.out]; exact beq_iff_eq.1 hx) Hno.out
        have Hfin := Lib.hid hfin
        clear hfin
        go_wp2_with (fail)
        go_ret
        exact ⟨ret_int (by rw [Hfin.out]), rfl⟩
      | false =>
        have hn1 := Hno.out.succ (by rw [Hv.out]; exact beq_eq_false_iff_ne.1 hx)
        have Hn1 := Lib.hid hn1
        clear hn1
        go_wp2_with (fail)
        exact ⟨⟨k + 1, by omega, by go_num, Hn1.out⟩, by simp [intOf]; omega⟩
    · obtain rfl : k = n := by omega
      have hfin := ixOf_none (idsB bs) x (by rw [idsB_len, Hl.out]; exact Hno.out)
      have Hfin := Lib.hid hfin
      clear hfin
      go_wp2_with (fail)
      go_ret
      exact ⟨ret_int (by rw [Hfin.out]), rfl⟩
end Go.Proofs.Ytfdnikmmfnhmbaa
