/- The walk of the law FnBoxValid: it returns true and leaves the old memory alone. Conditions: that the code reads as bytes. -/
import Derived.Test.YtbhmbmfhbeocoaaDrBox
import Derived.Test.YtbhmbmfhbeocoaaBox
import Derived.Test.YtbhmbmfhbeocoaaNum
namespace Go.Proofs.Ytbhmbmfhbeocoaa
open Go.RowKit
set_option linter.unusedVariables false

def DrawBox (w : World) (e : Ending) (w' : World) : Prop :=
  ∃ y : Bx, e = .returned (.agg #[.int .i64 y.id, .int .i64 y.wt, .int .i64 y.cl, .int .i64 y.po, .bool y.co]) ∧ Below w.heap.size w w'

set_option maxHeartbeats 800000 in
theorem drawBoxValid_any (A : Option Addr) (n c : Nat) (zs : List Int) (w : World) (h : IsRow .u8 w A n c zs) :
    Calls Try.prog 25 #[.slice A n c] w (DrawBox w) := by
  have H := Lib.hid (h.alloc (.cells #[.int .i64 0, .int .i64 0, .int .i64 0, .int .i64 0, .bool false] 25))
  clear h
  go_enter Try.func25, Try.ntmps25
  go_wp2_with (fail)
  refine (l20Open_any _ _ _ _ _ (H.out)).mono ?_; rintro e w1 ⟨g, rfl, hr1, hb1⟩; obtain ⟨hc1, hf1⟩ := bcell hb1; have z1 := hb1.size; (try simp at z1); have hl1 := hr1.lt; have hge1 := hr1.ge; (try simp at hge1); (have hn1 : ¬ w1.heap.size = g := by omega); (have nb1_0 : ¬ w.heap.size = g := by omega); (have y1_0 : w.heap.size < w1.heap.size := by omega)
  go_wp2_with (fail)
  refine (pick_any _ _ _ _ _ (by repeat' (first | with_reducible assumption | with_reducible apply RdOk.alloc | with_reducible apply RdOk.drew | with_reducible apply RdOk.drewN | with_reducible apply RdOk.setCell | (simp; done) | (simp; omega) | omega)) (by omega)).mono ?_; rintro e w2 ⟨x2, rfl, hx2, hy2, hr2, hg2⟩; obtain ⟨hc2, hf2⟩ := gcell hg2; have z2 := hg2.size; (try simp at z2); have hl2 := hr2.lt; (have hn2 : ¬ w2.heap.size = g := by omega); (have y2_0 : w.heap.size < w2.heap.size := by omega)
  go_wp2_with (fail)
  refine (l20Box_any _ _ _ _ _ _ (by repeat' (first | with_reducible assumption | with_reducible apply RdOk.alloc | with_reducible apply RdOk.drew | with_reducible apply RdOk.drewN | with_reducible apply RdOk.setCell | (simp; done) | (simp; omega) | omega)) (by omega) (by omega)).mono ?_; rintro e w3 ⟨y, rfl, hr3, hg3⟩; obtain ⟨hc3, hf3⟩ := gcell hg3; have z3 := hg3.size; (try simp at z3); have hl3 := hr3.lt; (have hn3 : ¬ w3.heap.size = g := by omega); (have y3_0 : w.heap.size < w3.heap.size := by omega)
  have q0 : w3.cell? ⟨w.heap.size, 0, none⟩ = some (.int .i64 0) := by go_simp
  have q1 : w3.cell? ⟨w.heap.size, 1, none⟩ = some (.int .i64 0) := by go_simp
  have q2 : w3.cell? ⟨w.heap.size, 2, none⟩ = some (.int .i64 0) := by go_simp
  have q3 : w3.cell? ⟨w.heap.size, 3, none⟩ = some (.int .i64 0) := by go_simp
  have q4 : w3.cell? ⟨w.heap.size, 4, none⟩ = some (.bool false) := by go_simp
  unfold Bx.val
  go_wp2_with (fail)
  refine bodyPost_ret (v := .agg #[.int .i64 y.id, .int .i64 y.wt, .int .i64 y.cl, .int .i64 y.po, .bool y.co]) (by simp [results, Try.results25, go_sem, q0, q1, q2, q3, q4]) rfl ⟨y, rfl, ?_⟩
  exact (by repeat' (first | with_reducible exact Below.refl _ _ | with_reducible assumption | with_reducible refine bel_step (by with_reducible assumption) ?_ ?_ | with_reducible refine below_grown_step (by with_reducible assumption) ?_ ?_ ?_ | with_reducible refine Below.drew ?_ | with_reducible refine below_drewN ?_ _ | with_reducible refine Below.alloc ?_ ?_ _ | with_reducible refine Below.setCell ?_ ?_ _ | (simp; done) | (simp; omega) | omega | with_reducible refine below_le (by with_reducible assumption) ?_))

theorem boxB_weight (id cl po : Int) : boxB id 0 cl po = false := by simp [boxB, inR]
theorem boxB_class {id wt cl po : Int} (h : boxB id wt cl po = true) : boxB id wt 0 po = true := by
  simp only [boxB, Bool.and_eq_true] at h ⊢
  exact ⟨⟨h.1.1, inR_yes (by omega)⟩, h.2⟩

set_option maxHeartbeats 800000 in
theorem fnBoxValid_walk (A : Option Addr) (n c : Nat) (zs : List Int) (w : World) (h : IsRow .u8 w A n c zs) :
    Calls Try.prog 7 #[.slice A n c] w fun e w' => e = .returned (.bool true) ∧ Below w.heap.size w w' := by
  by_cases hn : 1048576 < n
  · have hn' : (1048576 : Int) < n := by omega
    clear h
    go_enter Try.func7, Try.ntmps7
    go_wp2_with (fail)
    go_ret
    exact ⟨rfl, (by repeat' (first | with_reducible exact Below.refl _ _ | with_reducible assumption | with_reducible refine bel_step (by with_reducible assumption) ?_ ?_ | with_reducible refine Below.drew ?_ | with_reducible refine below_drewN ?_ _ | with_reducible refine Below.alloc ?_ ?_ _ | with_reducible refine Below.setCell ?_ ?_ _ | (simp; done) | (simp; omega) | omega | with_reducible refine below_le (by with_reducible assumption) ?_))⟩
  · have hn' : (n : Int) ≤ 1048576 := by omega
    have H := Lib.hid h
    clear h hn
    go_enter Try.func7, Try.ntmps7
    go_wp2_with (fail)
    refine (drawBoxValid_any _ _ _ _ _ H.out).mono ?_
    rintro e w1 ⟨⟨id, wt, cl, po, co⟩, rfl, hb1⟩
    obtain ⟨hc1, hf1⟩ := bcell hb1
    have z1 := hb1.size
    have k0 := boxB_weight id cl po
    cases hh : boxB id wt cl po with
    | false =>
      go_wp2_with (fail)
      refine (implBoxValid_any _ _ _ _ _ _).mono ?_; rintro e w2 ⟨rfl, hb2⟩; obtain ⟨hc2, hf2⟩ := bcell hb2; have z2 := hb2.size; (try simp at z2); (have y2_0 : w1.heap.size < w2.heap.size := by omega)
      go_wp2_with (fail)
      refine (specBoxValid_any _ _ _ _ _ _).mono ?_; rintro e w3 ⟨rfl, hb3⟩; obtain ⟨hc3, hf3⟩ := bcell hb3; have z3 := hb3.size; (try simp at z3); (have y3_0 : w1.heap.size < w3.heap.size := by omega)
      go_wp2_with (fail)
      refine (implBoxValid_any _ _ _ _ _ _).mono ?_; rintro e w4 ⟨rfl, hb4⟩; obtain ⟨hc4, hf4⟩ := bcell hb4; have z4 := hb4.size; (try simp at z4); (have y4_0 : w1.heap.size < w4.heap.size := by omega); (have y4_1 : w3.heap.size < w4.heap.size := by omega); (have y4_2 : w3.heap.size + 1 < w4.heap.size := by omega)
      go_wp2_with (go_at_call 26; refine (alive_any _).mono ?_; rintro e w' ⟨rfl, rfl⟩)
      go_ret
      exact ⟨rfl, (by repeat' (first | with_reducible exact Below.refl _ _ | with_reducible assumption | with_reducible refine bel_step (by with_reducible assumption) ?_ ?_ | with_reducible refine Below.drew ?_ | with_reducible refine below_drewN ?_ _ | with_reducible refine Below.alloc ?_ ?_ _ | with_reducible refine Below.setCell ?_ ?_ _ | (simp; done) | (simp; omega) | omega | with_reducible refine below_le (by with_reducible assumption) ?_))⟩
    | true =>
      have k2 := boxB_class hh
      go_wp2_with (fail)
      refine (implBoxValid_any _ _ _ _ _ _).mono ?_; rintro e w2 ⟨rfl, hb2⟩; obtain ⟨hc2, hf2⟩ := bcell hb2; have z2 := hb2.size; (try simp at z2); (have y2_0 : w1.heap.size < w2.heap.size := by omega)
      go_wp2_with (fail)
      refine (specBoxValid_any _ _ _ _ _ _).mono ?_; rintro e w3 ⟨rfl, hb3⟩; obtain ⟨hc3, hf3⟩ := bcell hb3; have z3 := hb3.size; (try simp at z3); (have y3_0 : w1.heap.size < w3.heap.size := by omega)
      go_wp2_with (fail)
      refine (implBoxValid_any _ _ _ _ _ _).mono ?_; rintro e w4 ⟨rfl, hb4⟩; obtain ⟨hc4, hf4⟩ := bcell hb4; have z4 := hb4.size; (try simp at z4); (have y4_0 : w1.heap.size < w4.heap.size := by omega); (have y4_1 : w3.heap.size < w4.heap.size := by omega); (have y4_2 : w3.heap.size + 1 < w4.heap.size := by omega)
      go_wp2_with (fail)
      refine (implBoxValid_any _ _ _ _ _ _).mono ?_; rintro e w5 ⟨rfl, hb5⟩; obtain ⟨hc5, hf5⟩ := bcell hb5; have z5 := hb5.size; (try simp at z5); (have y5_0 : w1.heap.size < w5.heap.size := by omega); (have y5_1 : w3.heap.size < w5.heap.size := by omega); (have y5_2 : w3.heap.size + 1 < w5.heap.size := by omega)
      go_wp2_with (go_at_call 26; refine (alive_any _).mono ?_; rintro e w' ⟨rfl, rfl⟩)
      go_ret
      exact ⟨rfl, (by repeat' (first | with_reducible exact Below.refl _ _ | with_reducible assumption | with_reducible refine bel_step (by with_reducible assumption) ?_ ?_ | with_reducible refine Below.drew ?_ | with_reducible refine below_drewN ?_ _ | with_reducible refine Below.alloc ?_ ?_ _ | with_reducible refine Below.setCell ?_ ?_ _ | (simp; done) | (simp; omega) | omega | with_reducible refine below_le (by with_reducible assumption) ?_))⟩
end Go.Proofs.Ytbhmbmfhbeocoaa
