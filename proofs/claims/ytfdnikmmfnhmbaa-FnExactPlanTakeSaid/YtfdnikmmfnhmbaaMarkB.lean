/- laws.markBoxS: it writes into its own row alone. Conditions: the row is the call's own, and the numbers are small. -/
import Derived.Test.YtfdnikmmfnhmbaaBoxOwn
namespace Go.Proofs.Ytfdnikmmfnhmbaa
open Go.RowKit
set_option linter.unusedVariables false

theorem grown_setCells {a w : World} {g : Nat} (h : a.grownBy w (some g)) (o : Nat) (y : Bx) : a.grownBy (w.setCells g o y.cells) (some g) := by
  simp only [Bx.cells, World.setCells]
  exact grown_setCell (grown_setCell (grown_setCell (grown_setCell (grown_setCell h _ _) _ _) _ _) _ _) _ _

set_option maxHeartbeats 1600000 in
theorem markBoxS_any (g n : Nat) (bs : List Bx) (k : Int) (w : World) (h : MadeB w g n bs) (hk0 : 0 ≤ k) (hk : k ≤ 1000000000) (hn : n ≤ 1048576) :
    Calls Try.prog 26 #[.slice (some ⟨g, 0, none⟩) n n, .int .i64 k] w fun e w' => e = .returned (.int .i64 (k + 5 * n)) ∧ w.grownBy w' (some g) := by
  have hlen := h.boxes.len
  have H := Lib.hid h
  clear h
  go_enter Try.func26, Try.ntmps26
  go_wp2_with (fail)
  go_loopw [1, 5] (fun q i wr => ∃ (j : Nat) (ys : List Bx), j ≤ n ∧ i = .int .i64 j ∧ q = .int .i64 (k + 5 * j) ∧ MadeB wr g n ys ∧ w.grownBy wr (some g)) (fun _ i _ => n - (intOf i).toNat)
  case atStart => exact ⟨0, bs, by omega, rfl, by simp, H.out, World.grownBy.refl w _⟩
  case round =>
    obtain ⟨j, ys, hj, rfl, rfl, ho, hgr⟩ := hrel
    have Ho := Lib.hid ho
    have Hgr := Lib.hid hgr
    by_cases hlt : j < n
    · have hlt' : (j : Int) < n := by omega
      have hj0 : (0 : Int) ≤ j := by omega
      obtain ⟨q0, q1, q2, q3, q4⟩ := ho.2.2.2.1 j hlt
      have p0 := ho.2.2.2.2 (j * 5)
      have p1 := ho.2.2.2.2 (j * 5 + 1)
      have p2 := ho.2.2.2.2 (j * 5 + 2)
      have p3 := ho.2.2.2.2 (j * 5 + 3)
      have p4 := ho.2.2.2.2 (j * 5 + 4)
      generalize ys.getD j default = z at q0 q1 q2 q3 q4
      obtain ⟨q, hq⟩ : ∃ q, k + 5 * (j : Int) = q := ⟨_, rfl⟩
      have hq0 : 0 ≤ q := by omega
      have hq1 : q ≤ 2000000000 := by omega
      have u1 : IntKind.i64.wrap (q + 1) = q + 1 := IntWalk.i64_in _ (by omega)
      have u2 : IntKind.i64.wrap (q + 1 + 1) = q + 1 + 1 := IntWalk.i64_in _ (by omega)
      have u3 : IntKind.i64.wrap (q + 1 + 1 + 1) = q + 1 + 1 + 1 := IntWalk.i64_in _ (by omega)
      have u4 : IntKind.i64.wrap (q + 1 + 1 + 1 + 1) = q + 1 + 1 + 1 + 1 := IntWalk.i64_in _ (by omega)
      have u5 : IntKind.i64.wrap (q + 1 + 1 + 1 + 1 + 1) = q + 1 + 1 + 1 + 1 + 1 := IntWalk.i64_in _ (by omega)
      rw [hq]
      have Hq := Lib.hid hq
      clear ho hgr hq
      go_wp2_with (fail)
      exact ⟨⟨j + 1, ys.set j ⟨q, q + 1, q + 1 + 1, q + 1 + 1 + 1, (q + 1 + 1 + 1 + 1) % 3 == 0⟩, by omega, by go_num, congrArg (Value.int .i64) (by have := Hq.out; omega), Ho.out.set_ hlt ⟨q, q + 1, q + 1 + 1, q + 1 + 1 + 1, (q + 1 + 1 + 1 + 1) % 3 == 0⟩, grown_setCells Hgr.out (j * 5) ⟨q, q + 1, q + 1 + 1, q + 1 + 1 + 1, (q + 1 + 1 + 1 + 1) % 3 == 0⟩⟩, by simp [intOf]; omega⟩
    · obtain rfl : j = n := by omega
      clear ho hgr
      go_wp2_with (fail)
      go_ret
      exact ⟨rfl, Hgr.out⟩
end Go.Proofs.Ytfdnikmmfnhmbaa
