/- slices.Grow at nil, slices.Concat at slices that read as lists, slices.Values. Conditions: the lists hold at most 1000 numbers together. -/
import Derived.Test.YteghialkkhmggaaYard
import Derived.Test.YteghialkkhmggaaAppZ
namespace Go.Proofs.Yteghialkkhmggaa
open Go.RowKit
set_option linter.unusedVariables false

theorem nil_row (w : World) (B : Nat) : RowI w B (.slice none 0 0) 0 [] := ⟨by simp [cellsI], .inl ⟨rfl, rfl⟩⟩
theorem Own.front {w : World} {B n c : Nat} {A : Option Addr} {xs : List Int} (h : Own w B A n c xs) : Own w B A 0 c [] := by
  rcases h with ⟨rfl, rfl, rfl, rfl⟩ | ⟨g, rfl, hg, cs, h1, h2, h3, h4, h5, h6⟩
  · exact .inl ⟨rfl, rfl, rfl, rfl⟩
  · exact .inr ⟨g, rfl, hg, cs, h1, h2, Nat.zero_le _, h4, rfl, fun j hj => absurd hj (by omega)⟩
def RowPost (w : World) (n : Nat) (xs : List Int) (e : Ending) (w' : World) : Prop := ∃ v : Value, e = .returned v ∧ RowI w' w.heap.size v n xs ∧ Below w.heap.size w w'

set_option maxHeartbeats 800000 in
theorem grow_any (m : Nat) (hm : m ≤ 1000) (w : World) : Calls Try.prog 68 #[.slice none 0 0, .int .i64 (m : Int)] w (RowPost w 0 []) := by
  by_cases h0 : m = 0
  · subst h0
    go_enter Try.func68, Try.ntmps68
    go_wp2_with (fail)
    go_ret
    exact ⟨_, rfl, nil_row _ _, Below.refl _ _⟩
  · have h0' : (0 : Int) < m := by omega
    have hm' : (m : Int) ≤ 1000 := by omega
    have hw1 : IntKind.i64.wrap (m : Int) = m := IntWalk.i64_in _ (by omega)
    go_enter Try.func68, Try.ntmps68
    go_wp2_with (first
      | (at_builtin; refine wpList_append_zeros rfl _ _ rfl w.heap.size (.slice none 0 0) 0 [] rfl (nil_row _ _) m rfl (by omega) hm (by omega) (Nat.le_refl _) ?_; intro v' w' hr' hg'
         have hb' := below_append (Below.refl _ _) (nil_row w w.heap.size) hg' (Nat.le_refl _)
         obtain ⟨A', c', rfl, ho'⟩ := hr'.own
         obtain ⟨g', rfl, hge', ho2⟩ : ∃ g, A' = some ⟨g, 0, none⟩ ∧ w.heap.size ≤ g ∧ OwnAt w' g (0 + m) c' ([] ++ List.replicate m 0) := by
           rcases ho' with ⟨_, hz, _⟩ | h
           · exact absurd hz (by omega)
           · exact h))
    go_ret
    exact ⟨_, rfl, RowI.of_own (Own.front (.inr ⟨g', rfl, hge', ho2⟩)), hb'⟩

theorem upTo_len {sss : List (List Int)} {k : Nat} (hk : k < sss.length) : (upTo sss (k + 1) 0).length = (upTo sss k 0).length + (sss.getD k []).length ∧ (upTo sss (k + 1) 0).length ≤ sss.flatten.length := by
  have h1 := upTo_next hk
  have h2 := (upTo_prefix sss k (sss.getD k []).length hk).length_le
  rw [h1]
  refine ⟨?_, h2⟩
  simp [upTo]
theorem upTo_snoc {sss : List (List Int)} {k : Nat} (hk : k < sss.length) : upTo sss (k + 1) 0 = upTo sss k 0 ++ sss.getD k [] := by
  rw [upTo_next hk]
  simp [upTo]

set_option maxHeartbeats 1600000 in
theorem concat_any (A : Option Addr) (n c : Nat) (sss : List (List Int)) (w : World) (h : IsStk w A n c sss) (hl : sss.flatten.length ≤ 1000) :
    Calls Try.prog 50 #[.slice A n c] w (RowPost w sss.flatten.length sss.flatten) := by
  have hlen := h.len
  have Hl := Lib.hid h.length
  have H := Lib.hid h
  have Hf := Lib.hid hl
  clear h hl
  go_enter Try.func50, Try.ntmps50
  go_wp2_with (fail)
  go_loop [3, 11] (fun z i => ∃ (k m : Nat), k ≤ n ∧ m ≤ 1000 ∧ i = .int .i64 k ∧ z = .int .i64 (m : Int) ∧ m = (upTo sss k 0).length) (fun _ i => n - (intOf i).toNat)
  case atStart => exact ⟨0, 0, by omega, by omega, rfl, rfl, by rw [upTo_zero]; rfl⟩
  case round =>
    obtain ⟨k, m, hk, hm, rfl, rfl, hmu⟩ := hrel
    have Hmu := Lib.hid hmu
    clear hmu
    by_cases hlt : k < n
    · have hlt' : (k : Int) < n := by omega
      have hk0 : (0 : Int) ≤ k := by omega
      obtain ⟨b, off, Ai, ni, ci, hA, hb, hc, hz⟩ := H.out.at_ hlt
      subst hA
      obtain ⟨u1, u2⟩ := upTo_len (sss := sss) (k := k) (by rw [Hl.out]; exact hlt)
      have hzn := hz.length
      have hf := Hf.out
      have hmu := Hmu.out
      have hni : m + ni ≤ 1000 := by omega
      have hnx : m + ni = (upTo sss (k + 1) 0).length := by omega
      have Hnx := Lib.hid hnx
      have hzl := hz.len
      clear u1 u2 hzn hf hmu hz hnx
      have hw1 : IntKind.i64.wrap ((m : Int) + ni) = (m : Int) + ni := IntWalk.i64_in _ (by omega)
      have hnn : ¬ ((m : Int) + ni < 0) := by omega
      go_wp2_with (fail)
      exact ⟨⟨k + 1, m + ni, by omega, by omega, by go_num, by simp, Hnx.out⟩, by simp [intOf]; omega⟩
    · obtain rfl : k = n := by omega
      go_wp2_with (first
        | (go_at_call 68; refine (grow_any m hm _).mono ?_; rintro e w1 ⟨v1, rfl, hr1, hb1⟩))
      have hs1 := hb1.size
      have H1 := Lib.hid (H.out.below hb1)
      clear Hmu
      have Hr1 := Lib.hid hr1
      have Hb1 := Lib.hid hb1
      clear hr1 hb1
      go_loopw [6, 27] (fun v i wr => ∃ (j p : Nat), j ≤ k ∧ i = .int .i64 j ∧ RowI wr w.heap.size v p (upTo sss j 0) ∧ p = (upTo sss j 0).length ∧ Below w.heap.size w wr) (fun _ i _ => k - (intOf i).toNat)
      case atStart => exact ⟨0, 0, by omega, rfl, by rw [upTo_zero]; exact Hr1.out, by rw [upTo_zero]; rfl, Hb1.out⟩
      case round =>
        obtain ⟨j, p, hj, rfl, hrow, hp, hbr⟩ := hrel
        have hsr := hbr.size
        have Hp := Lib.hid hp
        have Hrow := Lib.hid hrow
        obtain ⟨Ar, cr, rfl, _⟩ := id hrow.own
        clear hp hrow
        by_cases hlt : j < k
        · have hlt' : (j : Int) < k := by omega
          have hj0 : (0 : Int) ≤ j := by omega
          have hjl : j < sss.length := by rw [Hl.out]; exact hlt
          obtain ⟨b, off, Ai, ni, ci, hA, hb, hc0, hz⟩ := H.out.at_ hlt
          subst hA
          have hc := (hbr.cell (p := ⟨b, off + j, none⟩) hb).trans hc0
          have hz1 := hz.below hbr
          obtain ⟨u1, u2⟩ := upTo_len (sss := sss) (k := j) hjl
          have hzn := hz.length
          have hf := Hf.out
          have hp := Hp.out
          have hni : p + ni ≤ 1000 := by omega
          have hnx : p + ni = (upTo sss (j + 1) 0).length := by omega
          have hsn := upTo_snoc (sss := sss) (k := j) hjl
          have Hnx := Lib.hid hnx
          have Hsn := Lib.hid hsn
          clear u1 u2 hzn hf hp hz hnx hc0 hsn
          go_wp2_with (first
            | (at_builtin; refine wpList_append_ints rfl _ _ rfl w.heap.size _ p _ rfl Hrow.out Ai ni ci (sss.getD j []) rfl hz1 (by omega) hsr ?_; intro v3 w3 hr3 hg3
               rw [← Hsn.out] at hr3
               have hb3 := below_append hbr Hrow.out hg3 hsr
               clear hg3))
          exact ⟨⟨j + 1, p + ni, by omega, by go_num, hr3, Hnx.out, hb3⟩, by simp [intOf]; omega⟩
        · obtain rfl : j = k := by omega
          have hr := Hrow.out
          have hp := Hp.out
          have hl := Hl.out
          rw [← hl, upTo_all] at hr hp
          subst hp
          have Hr := Lib.hid hr
          clear hr hl
          go_wp2_with (fail)
          go_ret
          exact ⟨_, rfl, Hr.out, hbr⟩

set_option maxHeartbeats 400000 in
theorem values_any (A : Option Addr) (n c : Nat) (w : World) :
    Calls Try.prog 49 #[.slice A n c] w fun e w' => e = .returned (.func (.func 67) #[] #[.pointer (some ⟨w.heap.size, 0, none⟩)]) ∧ w' = w.alloc (.cells #[.slice A n c] 33) := by
  go_enter Try.func49, Try.ntmps49
  go_wp2
  go_ret
  exact ⟨rfl, rfl⟩
end Go.Proofs.Yteghialkkhmggaa
