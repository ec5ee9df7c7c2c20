/- spec.l1Number at numbers that are not negative; strconv.Itoa at small ones. Conditions: those in each statement; strconv's table of powers of ten as its text lays it. -/
import Derived.Test.YtbhmbmfhbeocoaaDoorWithin
import Derived.Test.YtbhmbmfhbeocoaaDoorShelf
import Derived.Lib.ItoaNum
import Derived.Laws.Concat
import Derived.Laws.BytesArg
namespace Go.Proofs.YtbhmbmfhbeocoaaDoor
open Go.RowKit
set_option linter.unusedVariables false

/-- the decimal numeral -/
def numS (n : Nat) : ByteArray := ⟨(Lib.decDigits n).toArray⟩
theorem numS_small {n : Nat} (h : n < 10) : numS n = ⟨#[UInt8.ofNat (48 + n)]⟩ := by rw [numS, Lib.decDigits, dif_pos h]
theorem numS_big {n : Nat} (h : ¬ n < 10) : numS n = numS (n / 10) ++ ⟨#[UInt8.ofNat (48 + n % 10)]⟩ := by
  rw [numS, Lib.decDigits, dif_neg h, numS, ByteArray.mk_append_mk]
theorem numS_size (n : Nat) : (numS n).size = Lib.nDigits n := by
  rw [numS]
  have := Lib.decDigits_length n
  simpa [ByteArray.size] using this

theorem one_conv (W : World) (b : Nat) (x : Int) (h : W.cell? ⟨b, 0, none⟩ = some (.int .u8 x)) : (convert 32 9 (.slice (some ⟨b, 0, none⟩) 1 1)).run Tryd.prog W = .ok (.string (strOfNums [x])) W :=
  run_convert_bytes_arg W 32 5 Tryd.underlying32 Tryd.underlying5 b 0 1 1 [x] rfl (fun i hi => by
    obtain rfl : i = 0 := by omega
    simpa [List.getD] using h) 9 Tryd.underlying9
theorem one_str (n : Nat) : strOfNums [48 + (n : Int)] = ⟨#[UInt8.ofNat (48 + n)]⟩ := by
  have : ((48 : Int) + (n : Int)).toNat = 48 + n := by omega
  simp [strOfNums, this]
def NumPost (w : World) (s : ByteArray) (e : Ending) (w' : World) : Prop := e = .returned (.string s) ∧ Below w.heap.size w w'

theorem nDigits_le (n : Nat) (h : n ≤ 1000000000) : Lib.nDigits n ≤ 1000000000 := by
  have : Lib.nDigits n ≤ n + 1 := by
    induction n using Nat.strongRecOn with
    | _ n ih =>
      by_cases h10 : n < 10
      · rw [Lib.nDigits_small h10]; omega
      · rw [Lib.nDigits_big h10]
        have := ih (n / 10) (by omega) (by omega)
        omega
  rcases Nat.lt_or_ge n 1000000000 with h1 | h1
  · omega
  · obtain rfl : n = 1000000000 := by omega
    decide +kernel

set_option maxHeartbeats 800000 in
set_option maxRecDepth 20000 in
theorem l1Number_any (n : Nat) (hn : n ≤ 1000000000) : ∀ w : World, Calls Tryd.prog 18 #[.int .i64 (n : Int)] w (NumPost w (numS n)) := by
  induction n using Nat.strongRecOn with
  | _ n ih =>
    intro w
    by_cases h : n < 10
    · have h' : (n : Int) < 10 := by omega
      rw [numS_small h]
      clear ih
      rw [← one_str]
      have hcv := one_conv (w.alloc (.cells #[.int .u8 (48 + (n : Int))] 5)) w.heap.size (48 + n) (by go_simp)
      go_enter Tryd.func18, Tryd.ntmps18
      go_wp2_with (fail)
      go_ret
      exact ⟨rfl, (by repeat' (first | with_reducible exact Below.refl _ _ | with_reducible assumption | with_reducible refine bel_step (by with_reducible assumption) ?_ ?_ | with_reducible refine Below.drew ?_ | with_reducible refine below_drewN ?_ _ | with_reducible refine Below.alloc ?_ ?_ _ | with_reducible refine Below.setCell ?_ ?_ _ | (simp; done) | (simp; omega) | omega | with_reducible refine below_le (by with_reducible assumption) ?_))⟩
    · have h' : (10 : Int) ≤ (n : Int) := by omega
      rw [numS_big h]
      have hi := ih (n / 10) (by omega) (by omega)
      clear ih
      rw [← one_str]
      have e1 : ((n / 10 : Nat) : Int) = (n : Int) / 10 := by omega
      have e2 : ((n % 10 : Nat) : Int) = (n : Int) % 10 := by omega
      rw [e1] at hi
      rw [e2]
      have hs := numS_size (n / 10)
      have hnd : Lib.nDigits (n / 10) ≤ 1000000000 := nDigits_le (n / 10) (by omega)
      obtain ⟨s1, hs1⟩ : ∃ s1, numS (n / 10) = s1 := ⟨_, rfl⟩
      rw [hs1] at hi hs ⊢
      obtain ⟨y, hy⟩ : ∃ y : Int, 48 + (n : Int) % 10 = y := ⟨_, rfl⟩
      have hwy : IntKind.i64.wrap y = y := IntWalk.i64_in _ (by omega)
      have hwu : IntKind.u8.wrap y = y := IntWalk.u8_in _ (by omega)
      have hcv : ∀ (W : World) (b : Nat), W.cell? ⟨b, 0, none⟩ = some (.int .u8 y) → (convert 32 9 (.slice (some ⟨b, 0, none⟩) 1 1)).run Tryd.prog W = .ok (.string (strOfNums [y])) W := fun W b h => one_conv W b y h
      have hadd : ∀ W, (Op.stringOp .add s1 (strOfNums [y])).run Tryd.prog W = .ok (.string (s1 ++ strOfNums [y])) W := fun W => run_string_add_sum W s1 _ (by rw [strOfNums_size, hs]; simp; omega)
      have hwd : IntKind.i64.wrap ((n : Int) / 10) = (n : Int) / 10 := IntWalk.i64_in _ (by omega)
      have hwm : IntKind.i64.wrap ((n : Int) % 10) = (n : Int) % 10 := IntWalk.i64_in _ (by omega)
      have hm : (n : Int).tmod 10 = (n : Int) % 10 := Int.tmod_eq_emod_of_nonneg (by omega)
      have hd : (n : Int).tdiv 10 = (n : Int) / 10 := Int.tdiv_eq_ediv_of_nonneg (by omega)
      have Hi := Lib.hid hi
      clear hi e1 e2 hs hs1
      rw [hy]
      go_enter Tryd.func18, Tryd.ntmps18
      go_wp2_with (fail)
      go_region_with (first
        | (go_at_call 18; refine (Hi.out _).mono ?_; rintro e v1 ⟨rfl, hv1⟩
           have hb1 : Below w.heap.size w v1 := (by repeat' (first | with_reducible exact Below.refl _ _ | with_reducible assumption | with_reducible refine bel_step (by with_reducible assumption) ?_ ?_ | with_reducible refine Below.drew ?_ | with_reducible refine below_drewN ?_ _ | with_reducible refine Below.alloc ?_ ?_ _ | with_reducible refine Below.setCell ?_ ?_ _ | (simp; done) | (simp; omega) | omega | with_reducible refine below_le (by with_reducible assumption) ?_))
           obtain ⟨hc1, _⟩ := bcell hv1))
      all_goals go_wp2_with (fail)
      all_goals go_ret
      all_goals exact ⟨rfl, (by repeat' (first | with_reducible exact Below.refl _ _ | with_reducible assumption | with_reducible refine bel_step (by with_reducible assumption) ?_ ?_ | with_reducible refine Below.drew ?_ | with_reducible refine below_drewN ?_ _ | with_reducible refine Below.alloc ?_ ?_ _ | with_reducible refine Below.setCell ?_ ?_ _ | (simp; done) | (simp; omega) | omega | with_reducible refine below_le (by with_reducible assumption) ?_))⟩

abbrev Tab (w : World) : Prop := Lib.TabIs Tryd.prog w "internal/strconv.uint64pow10" .u64 Lib.pow10Tab
theorem tab_below {w w' : World} (h : Tab w) (hb : Below w.heap.size w w') : Tab w' := by
  have h' : w.var? Tryd.prog "internal/strconv.uint64pow10" = some (Lib.pow10Tab.map fun z => Value.int .u64 z).toArray := h
  show w'.var? Tryd.prog "internal/strconv.uint64pow10" = some (Lib.pow10Tab.map fun z => Value.int .u64 z).toArray
  unfold World.var? at h' ⊢
  cases hg : Tryd.prog.globalNamed "internal/strconv.uint64pow10" with
  | none => rw [hg] at h'; cases h'
  | some g =>
    rw [hg] at h'
    simp only [Option.bind_some] at h' ⊢
    have hlt : g < w.heap.size := by
      rcases Nat.lt_or_ge g w.heap.size with h1 | h1
      · exact h1
      · rw [Array.getElem?_eq_none h1] at h'; cases h'
    rw [hb.block g hlt]
    exact h'
theorem below_grow {B : Nat} {a w : World} (h : Below B a w) (hB : B ≤ w.heap.size) (os : Array Obj) : Below B a (Go.Sort.grow w os) :=
  h.trans ⟨rfl, rfl, rfl, by simp [Go.Sort.grow], fun k hk => by simp only [Go.Sort.grow]; exact Array.getElem?_append_left (by omega)⟩
theorem itoa_any (n : Nat) (hn : n ≤ 1000000000) (w : World) (ht : Tab w) : Calls Tryd.prog 19 #[.int .i64 (n : Int)] w (NumPost w (numS n)) := by
  refine (Tryd.strconv_Itoa (n : Int) (by omega) (by omega) w ht).mono ?_
  rintro e w1 ⟨rfl, hw1⟩
  obtain ⟨j, os, rfl⟩ := hw1
  exact ⟨by rw [Lib.itoa_nonneg]; rfl, below_grow (below_drewN (Below.refl _ _) _) (Nat.le_refl _) _⟩
end Go.Proofs.YtbhmbmfhbeocoaaDoor
