/- slices.Sorted at slices.Values of a slice that reads as a list; impl.YardIds. Conditions: that the slices read as lists. -/
import Derived.Test.YteghialkkhmggaaSeq
import Derived.Test.YteghialkkhmggaaIds2
import Derived.Test.YteghialkkhmggaaIter
namespace Go.Proofs.Yteghialkkhmggaa
open Go.RowKit Go.Maps Go.Sort Go.Shelf
set_option linter.unusedVariables false

theorem sorts_any (m : Nat) : SortsAt Fence.wide m :=
  ⟨fun blk off cap ss W hH hblk hsz => callsIn_wide.2 (AnyM.slices_Sort_int Try.sortA blk off cap ss W hH hblk hsz),
   fun p cap W => callsIn_wide.2 (AnyM.slices_Sort_int_none Try.sortA p cap W)⟩

theorem sortedV_any (Bs : Nat) (A : Option Addr) (m c : Nat) (xs : List Int) (w : World) (hI : Ints w A m c xs) (hm : m ≤ 1000) (hB : Bs < w.heap.size) (hc : w.cell? ⟨Bs, 0, none⟩ = some (.slice A m c)) :
    Calls Try.prog 48 #[.func (.func 67) #[] #[.pointer (some ⟨Bs, 0, none⟩)]] w (RowPost w m (sortL xs)) := by
  refine (callsIn_wide (n := 4)).1 ?_
  have hl := hI.length
  have hs := sorted_all Fence.wide 4 trivial trivial trivial trivial rfl (by omega) (sorts_any _) 67 #[.pointer (some ⟨Bs, 0, none⟩)] trivial (enters_of Try.func67 (by kernel_rfl) rfl)
    (fun ys => ys = xs) (fun ss h => by subst h; omega) m (by unfold maxLen; omega) (by omega) w (values_all Fence.wide _ trivial rfl (by omega) Bs A m c xs w hI hB hc)
  refine hs.mono ?_
  rintro e w' ⟨v, ss, rfl, rfl, hrow, hb⟩
  rw [sortZ_eq, hl] at hrow
  exact ⟨v, rfl, hrow, hb⟩

set_option maxHeartbeats 1600000 in
theorem implYardIds_any (hi : Int) (A : Option Addr) (n c : Nat) (sss : List (List Int)) (w : World) (h : IsStk w A n c sss) :
    Calls Try.prog 20 #[.agg #[.int .i64 hi, .slice A n c]] w (RowPost w (idsV hi sss).length (idsV hi sss)) := by
  have H := Lib.hid h
  clear h
  cases hv : yardB hi sss with
  | false =>
    have hfin : idsV hi sss = [] := by simp [idsV, hv]
    rw [hfin]
    clear hfin
    go_enter Try.func20, Try.ntmps20
    go_wp2_with (go_at_call 15; refine (implYardValid_any _ _ _ _ _ _ (H.out.alloc _)).mono ?_; rintro e w1 ⟨rfl, hb0⟩; rw [hv]; have hb1 : Below w.heap.size w w1 := (by repeat' (first | with_reducible exact Below.refl _ _ | with_reducible assumption | with_reducible refine bel_step (by with_reducible assumption) ?_ ?_ | with_reducible refine Below.drew ?_ | with_reducible refine below_drewN ?_ _ | with_reducible refine Below.alloc ?_ ?_ _ | with_reducible refine Below.setCell ?_ ?_ _ | (simp; done) | (simp; omega) | omega | with_reducible refine below_le (by with_reducible assumption) ?_)))
    go_ret
    exact ⟨_, rfl, nil_row _ _, hb1⟩
  | true =>
    have hfin : idsV hi sss = sortL sss.flatten := by simp [idsV, hv]
    have h25 := yard_25 hv
    rw [hfin, sortL_length]
    obtain ⟨F, hF⟩ : ∃ F, sss.flatten = F := ⟨_, rfl⟩
    have hcat : ∀ W, IsStk W A n c sss → Calls Try.prog 50 #[.slice A n c] W (RowPost W F.length F) := fun W hW => by
      rw [← hF]
      exact concat_any A n c sss W hW (by omega)
    rw [hF] at h25 ⊢
    have Hcat := Lib.hid hcat
    clear hfin hF hcat
    go_enter Try.func20, Try.ntmps20
    go_wp2_with (first
      | (go_at_call 15; refine (implYardValid_any _ _ _ _ _ _ (H.out.alloc _)).mono ?_; rintro e w1 ⟨rfl, hb0⟩; rw [hv]
         have hb1 : Below w.heap.size w w1 := (by repeat' (first | with_reducible exact Below.refl _ _ | with_reducible assumption | with_reducible refine bel_step (by with_reducible assumption) ?_ ?_ | with_reducible refine Below.drew ?_ | with_reducible refine below_drewN ?_ _ | with_reducible refine Below.alloc ?_ ?_ _ | with_reducible refine Below.setCell ?_ ?_ _ | (simp; done) | (simp; omega) | omega | with_reducible refine below_le (by with_reducible assumption) ?_))
         have hs1 := hb1.size
         have hI1 := H.out.below hb1
         have hy1 : Yd w1 w.heap.size hi A n c := Yd.below (w := w.alloc _) ⟨by simp, by go_simp, by go_simp⟩ hb0
         obtain ⟨y3, p0, p1⟩ := hy1
         clear hb0))
    refine (Hcat.out _ hI1).mono ?_
    rintro e w2 ⟨v, rfl, hr2, hb2⟩
    obtain ⟨A2, c2, rfl, ho2⟩ := hr2.own
    have hI2 := (ho2.ints).alloc (.cells #[.slice A2 F.length c2] 33)
    have hb3 := hb1.trans (hb2.mono hs1)
    have hb4 := hb3.alloc hb3.size (.cells #[.slice A2 F.length c2] 33)
    clear hr2 hb2 hb1
    go_wp2_with (fail)
    refine (values_any _ _ _ _).mono ?_
    rintro e w3 ⟨rfl, rfl⟩
    go_wp2_with (fail)
    refine (sortedV_any w2.heap.size A2 F.length c2 F _ hI2 (by omega) (by simp) (by go_simp)).mono ?_
    rintro e w4 ⟨v4, rfl, hr4, hb5⟩
    go_wp2_with (fail)
    go_ret
    exact ⟨_, rfl, hr4.less hb4.size, hb4.trans (hb5.mono hb4.size)⟩
end Go.Proofs.Yteghialkkhmggaa
