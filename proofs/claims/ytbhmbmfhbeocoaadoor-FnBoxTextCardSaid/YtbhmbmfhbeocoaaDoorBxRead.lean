/- What impl.ReadBox calls (strings.CutSuffix, strings.FieldsFunc at its predicate, strconv.Atoi), and impl.ReadBox. Conditions: the listed variables are as the program's text lays them; the text is no longer than 2000000 bytes. -/
import Derived.Test.YtbhmbmfhbeocoaaDoorBxTxt
import Derived.Test.YtbhmbmfhbeocoaaDoorBxLaid
namespace Go.Proofs.YtbhmbmfhbeocoaaDoor
open Go.RowKit
set_option linter.unusedVariables false

theorem atoi_any (s : ByteArray) (hs : s.size ≤ 2000000) (w : World) (hE : Errs w) :
    Calls Tryd.prog 25 #[.string s] w fun e w' => ∃ ev, e = .returned (.tuple #[.int .i64 (atV s.data.toList), ev]) ∧ Below w.heap.size w w' := by
  obtain ⟨⟨u0, v0, h0⟩, u1, v1, h1⟩ := hE
  cases h : Lib.atoiAll s.data.toList with
  | ok v =>
    refine (Tryd.strconv_Atoi_ok s (by omega) v h w).mono ?_
    rintro e w' ⟨rfl, hw⟩
    refine ⟨_, by rw [atV, h], ?_⟩
    rcases hw with rfl | ⟨t, rfl⟩
    · exact Below.refl _ _
    · exact Lib.bytesWorld_below _ _ _
  | range =>
    refine (Tryd.strconv_Atoi_range s (by omega) h _ w h1 (.inr ⟨_, _, rfl⟩)).mono ?_
    rintro e w' ⟨N, rfl, _, _, hb⟩
    exact ⟨_, by rw [atV, h], hb⟩
  | _ =>
    have hc : Calls Tryd.prog 25 #[.string s] w _ := Any.strconv_Atoi_syntax Tryd.laysC172 s (by omega) h _ w h0 (.inr ⟨_, _, rfl⟩)
    refine hc.mono ?_
    rintro e w' ⟨N, rfl, _, _, hb⟩
    exact ⟨_, by rw [atV, h], hb⟩

theorem cut_any (s : ByteArray) (hs : s.size ≤ 2000000) (w : World) :
    Calls Tryd.prog 22 #[.string s, .string ⟨#[99]⟩] w fun e w' => e = .returned (.tuple #[.string ⟨(stripC s.data.toList).toArray⟩, .bool (endC s.data.toList)]) ∧ w = w' := by
  refine (Tryd.strings_CutSuffix s ⟨#[99]⟩ w (by omega)).mono ?_
  rintro e w' ⟨rfl, rfl⟩
  refine ⟨?_, rfl⟩
  show _ = _
  have e1 : (⟨#[99]⟩ : ByteArray).data.toList = [99] := rfl
  rw [e1, trim_stripC, suffix_endC]

set_option maxHeartbeats 400000 in
theorem sep_any (x : Nat) (W : World) : Calls Tryd.prog 24 #[.int .i32 (x : Int)] W fun e w' => e = .returned (.bool (sepP x)) ∧ W = w' := by
  by_cases h1 : x = 58
  · subst h1
    go_enter Tryd.func24, Tryd.ntmps24
    go_wp2
    go_ret
    exact ⟨rfl, rfl⟩
  · have h1' : ((x : Int) == 58) = false := beq_eq_false_iff_ne.2 (by omega)
    by_cases h2 : x = 47
    · subst h2
      go_enter Tryd.func24, Tryd.ntmps24
      go_wp2
      go_ret
      exact ⟨rfl, rfl⟩
    · have h2' : ((x : Int) == 47) = false := beq_eq_false_iff_ne.2 (by omega)
      have hfin : sepP x = false := by
        rw [sepP, beq_eq_false_iff_ne.2 h1, beq_eq_false_iff_ne.2 h2]
        rfl
      rw [hfin]
      clear hfin
      go_enter Tryd.func24, Tryd.ntmps24
      go_wp2
      go_ret
      exact ⟨rfl, rfl⟩

/-- the pieces between the colons and slashes -/
def wordsB (s : ByteArray) : List ByteArray := Lib.goFieldsP sepP s
theorem fields_any (s : ByteArray) (hs : s.size ≤ 2000000) (w : World) :
    Calls Tryd.prog 23 #[.string s, .func (.func 24) #[] #[]] w fun e w' => ∃ A, e = .returned (.slice (some ⟨A, 0, none⟩) (wordsB s).length (wordsB s).length) ∧ A < w'.heap.size ∧
      (∀ j (h : j < (wordsB s).length), w'.cell? ⟨A, j, none⟩ = some (.string (wordsB s)[j])) ∧ Below w.heap.size w w' := by
  refine (Tryd.strings_FieldsFunc_runes 24 #[] (enters_of Tryd.func24 (by kernel_rfl) rfl) sepP s w (by omega) ?_).mono ?_
  · intro W x hx hb
    refine (sep_any x W).mono ?_
    rintro e w' ⟨rfl, rfl⟩
    exact ⟨rfl, 0, rfl⟩
  · rintro e w' ⟨A, rfl, hA, hrow, hb⟩
    have hcells := World.ownsRow.cells hrow (g := A) rfl
    have hlt : A < w'.heap.size := by
      rcases hrow.2 with ⟨e, _⟩ | ⟨g, cap, cur, e, _, hh, _⟩
      · cases e
      · injection e with e1
        injection e1 with e1
        injection e1 with e1
        subst e1
        exact (Array.getElem?_eq_some_iff.1 hh).1
    refine ⟨A, rfl, hlt, fun j hj => ?_, hb⟩
    have := hcells j (.string (wordsB s)[j]) (by
      rw [List.getElem?_map, List.getElem?_eq_getElem (show j < (Lib.goFieldsP sepP s).length from hj)]
      rfl)
    unfold Addr.add at this
    by_cases h0 : j = 0
    · subst h0; simpa using this
    · simpa [h0] using this
end Go.Proofs.YtbhmbmfhbeocoaaDoor
