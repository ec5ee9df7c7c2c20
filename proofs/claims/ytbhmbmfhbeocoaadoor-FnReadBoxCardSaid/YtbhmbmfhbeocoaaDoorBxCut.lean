/- spec.l1Cut, spec.l1Read. Conditions: the texts are no longer than 2000000 bytes. -/
import Derived.Test.YtbhmbmfhbeocoaaDoorLwBx1
import Derived.Laws.AppendOwn
import Derived.Laws.OwnMore
namespace Go.Proofs.YtbhmbmfhbeocoaaDoor
open Go.RowKit
set_option linter.unusedVariables false

abbrev RowT (w : World) (B : Nat) (v : Value) (n : Nat) (ss : List ByteArray) : Prop := w.ownsRow B 9 1 v n (ss.map Value.string)
theorem str_info : (Tryd.prog.info? 9).map (fun i => (i.zero, i.size, i.bytes)) = some (some (.string ⟨#[]⟩), 1, 16) := by kernel_rfl
theorem RowT.empty {w : World} {B : Nat} (hB : B ≤ w.heap.size) : RowT (w.alloc (.cells #[] 9)) B (.slice (some ⟨w.heap.size, 0, none⟩) 0 0) 0 [] :=
  ⟨rfl, .inr ⟨w.heap.size, 0, #[], rfl, hB, heap_alloc_new w _, Nat.le_refl _, Nat.zero_le _, rfl, rfl⟩⟩
theorem RowT.below {w w' : World} {B n : Nat} {v : Value} {ss : List ByteArray} (h : RowT w B v n ss) (hb : Below w.heap.size w w') : RowT w' B v n ss := by
  refine ⟨h.1, ?_⟩
  rcases h.2 with h2 | ⟨g, cap, cur, e, hg, hh, h5⟩
  · exact .inl h2
  · exact .inr ⟨g, cap, cur, e, hg, (hb.block g (Array.getElem?_eq_some_iff.1 hh).1).trans hh, h5⟩
theorem RowT.alloc {w : World} {B n : Nat} {v : Value} {ss : List ByteArray} (h : RowT w B v n ss) (o : Obj) : RowT (w.alloc o) B v n ss := h.below ((Below.refl _ _).alloc (Nat.le_refl _) _)
theorem below_rowT {w w1 w2 : World} {B n : Nat} {v : Value} {ss : List ByteArray} (hb : Below B w w1) (hr : RowT w1 B v n ss) (hg : w1.grownBy w2 v.ownBlock) (hB : B ≤ w1.heap.size) : Below B w w2 :=
  hb.trans ⟨hg.os, hg.tape, hg.output, hg.size, fun k hk => hg.block k (by omega) (fun e => by have := (hr.lt k e.symm).1; omega)⟩
theorem wpList_append_str {w : World} {ops : Array Oper} {rest : List Oper} {o : Oper} {a : Act} {Q : Exit → Act → World → Prop} (hgd : o.guard = none) (s x : Operand)
    (ho : o.op = .call { callee := .builtin .append, args := #[s, x], argTypes := #[39, 39] })
    (B : Nat) (v : Value) (n : Nat) (ss : List ByteArray) (hs : a.eval s = v) (hown : RowT w B v n ss)
    (g : Nat) (u : ByteArray) (hx : a.eval x = .slice (some ⟨g, 0, none⟩) 1 1) (hu : w.cell? ⟨g, 0, none⟩ = some (.string u)) (hn : n ≤ 3000000) (hB : B ≤ w.heap.size)
    (h : ∀ v' w', RowT w' B v' (n + 1) (ss ++ [u]) → w.grownBy w' v.ownBlock → wpList Tryd.prog ops Q rest (a.put o.dst v') w') : wpList Tryd.prog ops Q (o :: rest) a w := by
  obtain ⟨i0, hi, hz0, hz1, hz2⟩ := info_parts str_info
  refine wpList_append_own w hgd s x 39 ho B 9 i0 _ 1 16 Tryd.underlying39 hi hz0 hz1 hz2 rfl (by omega) v n _ hs hown ⟨g, 0, none⟩ 1 1 [.string u] hx rfl ?_ (by intro y hy; simp at hy; subst hy; rfl) (by unfold maxLen; omega) (by omega) hB ?_
  · intro j y hy
    have hj : j = 0 := by
      have := (List.getElem?_eq_some_iff.1 hy).1
      simpa using this
    subst hj
    simp at hy
    subst hy
    simpa [Addr.add] using hu
  · intro v' w' k1 k2 _
    exact h v' w' (by rw [RowT, List.map_append]; exact k1) k2

theorem extract_list (s : ByteArray) (i j : Nat) : (s.extract i j).data.toList = (s.data.toList.drop i).take (j - i) := by
  rw [ByteArray.data_extract, Array.toList_extract, List.extract_eq_take_drop]
theorem size_list (s : ByteArray) : s.data.toList.length = s.size := by rw [Array.length_toList]; rfl
theorem drop_at (s : ByteArray) (k : Nat) (hk : k < s.size) : s.data.toList.drop k = s[k] :: s.data.toList.drop (k + 1) := by
  rw [List.drop_eq_getElem_cons (by rw [size_list]; exact hk)]
  rfl
/-- what has been cut off when k bytes have been looked at -/
def CutAt (s : ByteArray) (sep : UInt8) (ss : List ByteArray) (f k : Nat) : Prop :=
  cutL sep s.data.toList = ss.map (fun x => x.data.toList) ++ cutGo sep ((s.data.toList.drop f).take (k - f)) (s.data.toList.drop k)
theorem CutAt.start (s : ByteArray) (sep : UInt8) : CutAt s sep [] 0 0 := by simp [CutAt, cutL]
theorem CutAt.hit {s : ByteArray} {sep : UInt8} {ss : List ByteArray} {f k : Nat} (h : CutAt s sep ss f k) (hk : k < s.size) (hb : s[k] = sep) : CutAt s sep (ss ++ [s.extract f k]) (k + 1) (k + 1) := by
  unfold CutAt at h ⊢
  rw [h, drop_at s k hk, hb, cutGo_sep, List.map_append, List.append_assoc, List.map_cons, List.map_nil, extract_list]
  simp
theorem CutAt.miss {s : ByteArray} {sep : UInt8} {ss : List ByteArray} {f k : Nat} (h : CutAt s sep ss f k) (hf : f ≤ k) (hk : k < s.size) (hb : s[k] ≠ sep) : CutAt s sep ss f (k + 1) := by
  unfold CutAt at h ⊢
  rw [h, drop_at s k hk, cutGo, if_neg hb]
  congr 2
  have hl := size_list s
  rw [show k + 1 - f = (k - f) + 1 by omega, List.take_succ_eq_append_getElem (by rw [List.length_drop]; omega)]
  congr 1
  rw [List.getElem_drop]
  have : s.data.toList[f + (k - f)]'(by omega) = s[k] := by
    have e : f + (k - f) = k := by omega
    simp only [e]
    rfl
  rw [this]
theorem CutAt.done {s : ByteArray} {sep : UInt8} {ss : List ByteArray} {f : Nat} (h : CutAt s sep ss f s.size) : (ss ++ [s.extract f s.size]).map (fun x => x.data.toList) = cutL sep s.data.toList := by
  unfold CutAt at h
  rw [h, show s.data.toList.drop s.size = [] from List.drop_eq_nil_of_le (by rw [size_list]; exact Nat.le_refl _), cutGo, List.map_append, List.map_cons, List.map_nil, extract_list]

def CutPost (w : World) (s : ByteArray) (sep : UInt8) (e : Ending) (w' : World) : Prop :=
  ∃ (v : Value) (ss : List ByteArray), e = .returned v ∧ RowT w' w.heap.size v ss.length ss ∧ ss.map (fun x => x.data.toList) = cutL sep s.data.toList ∧ Below w.heap.size w w'

set_option maxHeartbeats 1600000 in
theorem l1Cut_any (s : ByteArray) (sep : UInt8) (c : Int) (hc : c = (sep.toNat : Int)) (hs : s.size ≤ 2000000) (w : World) : Calls Tryd.prog 20 #[.string s, .int .u8 c] w (CutPost w s sep) := by
  have hrow0 := RowT.empty (Nat.le_refl w.heap.size)
  have hb0 : Below w.heap.size w (w.alloc (.cells #[] 9)) := (Below.refl _ _).alloc (Nat.le_refl _) _
  have Hc := Lib.hid hc
  have Hrow0 := Lib.hid hrow0
  clear hc hrow0
  go_enter Tryd.func20, Tryd.ntmps20
  go_wp2_with (fail)
  go_loopw [5, 6, 7] (fun v x y wr => ∃ (k f : Nat) (ss : List ByteArray), k ≤ s.size ∧ f ≤ k ∧ x = .int .i64 f ∧ y = .int .i64 k ∧ RowT wr w.heap.size v ss.length ss ∧ ss.length ≤ k ∧ CutAt s sep ss f k ∧ Below w.heap.size w wr) (fun _ _ y _ => s.size - (intOf y).toNat)
  case atStart => exact ⟨0, 0, [], by omega, by omega, rfl, rfl, Hrow0.out, by simp, CutAt.start s sep, hb0⟩
  case round =>
    clear hb0 Hrow0
    obtain ⟨k, f, ss, hk, hf, rfl, rfl, hrow, hsl, hcut, hbr⟩ := hrel
    have hsr := hbr.size
    have Hrow := Lib.hid hrow
    have Hcut := Lib.hid hcut
    clear hrow hcut
    by_cases hlt : k < s.size
    · have hlt' : (k : Int) < s.size := by omega
      have hk0 : (0 : Int) ≤ k := by omega
      have hf0 : (0 : Int) ≤ f := by omega
      have hfk : (f : Int) ≤ k := by omega
      have hw1 : IntKind.i64.wrap ((k : Int) + 1) = (k : Int) + 1 := IntWalk.i64_in _ (by omega)
      by_cases hb : s[k] = sep
      · have e : ((s[k]'hlt).toNat : Int) = c := by rw [hb, Hc.out]
        have hnx := Hcut.out.hit hlt hb
        have Hnx := Lib.hid hnx
        clear hnx hb
        go_wp2_with (first
          | (at_builtin; refine wpList_append_str rfl _ _ rfl w.heap.size _ ss.length ss rfl (Hrow.out.alloc _) wr.heap.size (s.extract f k) rfl (by go_simp) (by omega) (Nat.le_trans hsr ((Below.refl _ _).alloc (Nat.le_refl _) _).size) ?_; intro v3 w3 hr3 hg3
             have hb3 := below_rowT (hbr.alloc hsr _) (Hrow.out.alloc _) hg3 (Nat.le_trans hsr ((Below.refl _ _).alloc (Nat.le_refl _) _).size)
             clear hg3))
        exact ⟨⟨k + 1, k + 1, ss ++ [s.extract f k], by omega, by omega, by go_num, by go_num, by simpa using hr3, by simp; omega, Hnx.out, hb3⟩, by simp [intOf]; omega⟩
      · have e : (((s[k]'hlt).toNat : Int) == c) = false := by
          rw [beq_eq_false_iff_ne, Hc.out]
          intro h
          exact hb (UInt8.toNat_inj.1 (by omega))
        have hnx := Hcut.out.miss hf hlt hb
        have Hnx := Lib.hid hnx
        clear hnx hb
        go_wp2_with (fail)
        exact ⟨⟨k + 1, f, ss, by omega, by omega, rfl, by go_num, Hrow.out, by omega, Hnx.out, hbr⟩, by simp [intOf]; omega⟩
    · obtain rfl : k = s.size := by omega
      have hfin := Hcut.out.done
      have Hfin := Lib.hid hfin
      have hf0 : (0 : Int) ≤ f := by omega
      have hfk : (f : Int) ≤ (s.size : Int) := by omega
      clear hfin
      go_wp2_with (first
        | (at_builtin; refine wpList_append_str rfl _ _ rfl w.heap.size _ ss.length ss rfl (Hrow.out.alloc _) wr.heap.size (s.extract f s.size) rfl (by go_simp) (by omega) (Nat.le_trans hsr ((Below.refl _ _).alloc (Nat.le_refl _) _).size) ?_; intro v3 w3 hr3 hg3
           have hb3 := below_rowT (hbr.alloc hsr _) (Hrow.out.alloc _) hg3 (Nat.le_trans hsr ((Below.refl _ _).alloc (Nat.le_refl _) _).size)
           clear hg3))
      go_ret
      exact ⟨_, ss ++ [s.extract f s.size], rfl, by simpa using hr3, Hfin.out, hb3⟩
end Go.Proofs.YtbhmbmfhbeocoaaDoor
