/- What the laws on boxes need in plain Lean. Conditions: those in each statement. -/
import Derived.Test.YtbhmbmfhbeocoaaBoxesW2
namespace Go.Proofs.Ytbhmbmfhbeocoaa
open Go.RowKit
set_option linter.unusedVariables false

theorem ixOf_neg_iff (l : List Int) (x : Int) : ixOf l x < 0 ↔ ¬ x ∈ l := by
  induction l with
  | nil => simp [ixOf]
  | cons y l ih =>
    have h0 := ixOf_ge l x
    simp only [ixOf, List.mem_cons]
    by_cases h : y = x
    · rw [if_pos h]; simp [h]
    · rw [if_neg h]
      have h' : ¬ x = y := fun e => h e.symm
      by_cases h2 : ixOf l x < 0
      · rw [if_pos h2]; simp [h', ih.1 h2]
      · rw [if_neg h2]
        have := mt ih.2 h2
        simp only [h', false_or]
        constructor
        · intro h3; omega
        · intro h3; exact absurd h3 this
theorem ixOf_nodup (l : List Int) (hn : l.Nodup) (k : Nat) (hk : k < l.length) : ixOf l (l.getD k 0) = k := by
  refine ixOf_found l _ k hk rfl fun j hj e => ?_
  have h1 : l[j]'(by omega) = l[k] := by simpa [List.getD, List.getElem?_eq_getElem (show j < l.length by omega), List.getElem?_eq_getElem hk] using e
  exact List.pairwise_iff_getElem.1 hn j k (by omega) hk hj h1
theorem ixOf_get (l : List Int) (x : Int) (h : 0 ≤ ixOf l x) : l.getD (ixOf l x).toNat 0 = x := by
  induction l with
  | nil => simp [ixOf] at h
  | cons y l ih =>
    simp only [ixOf] at h ⊢
    by_cases hy : y = x
    · rw [if_pos hy]; simp [hy]
    · rw [if_neg hy] at h ⊢
      by_cases h2 : ixOf l x < 0
      · rw [if_pos h2] at h; omega
      · rw [if_neg h2]
        have := ih (by omega)
        rw [show (ixOf l x + 1).toNat = (ixOf l x).toNat + 1 by omega]
        simpa using this

theorem okBB_iff (bs : List Bx) (k : Nat) (hk : k ≤ bs.length) : okBB bs k = true ↔ (∀ y ∈ bs.take k, bxB y = true) ∧ (idsB (bs.take k)).Nodup := by
  induction k with
  | zero => simp [okBB, idsB]
  | succ k ih =>
    have hk' : k < bs.length := by omega
    have e : bs.getD k default = bs[k] := by simp [List.getD, hk']
    rw [okBB_succ, Bool.and_eq_true, Bool.and_eq_true, ih (by omega), decide_eq_true_iff, ixOf_neg_iff, List.take_succ_eq_append_getElem hk', e]
    simp only [List.mem_append, List.mem_singleton, idsB, List.map_append, List.map_cons, List.map_nil, List.nodup_append, List.mem_map]
    constructor
    · rintro ⟨⟨h1, h2⟩, h3, h4⟩
      refine ⟨fun y hy => ?_, h2, by simp, fun a ha b hb => ?_⟩
      · rcases hy with hy | rfl
        · exact h1 y hy
        · exact h3
      · subst hb
        intro e
        exact h4 (by rw [← e]; exact ha)
    · rintro ⟨h1, h2, _, h4⟩
      exact ⟨⟨fun y hy => h1 y (.inl hy), h2⟩, h1 _ (.inr rfl), fun h => h4 _ h _ rfl rfl⟩
theorem boxesB_iff (bs : List Bx) : boxesB bs = true ↔ (∀ y ∈ bs, bxB y = true) ∧ (idsB bs).Nodup ∧ bs.length ≤ 10 := by
  have := okBB_iff bs bs.length (Nat.le_refl _)
  rw [List.take_length] at this
  rw [boxesB, Bool.and_eq_true, this, decide_eq_true_iff, and_assoc]
theorem boxesB_nil : boxesB [] = true := rfl
theorem boxesB_drop {bs : List Bx} (h : boxesB bs = true) : boxesB (bs.drop 1) = true := by
  rw [boxesB_iff] at h ⊢
  obtain ⟨h1, h2, h3⟩ := h
  refine ⟨fun y hy => h1 y (List.mem_of_mem_drop hy), ?_, by simp; omega⟩
  have : idsB (bs.drop 1) = (idsB bs).drop 1 := by simp [idsB]
  rw [this]
  exact h2.sublist (List.drop_sublist _ _)
theorem boxesB_again {bs : List Bx} (h : bs ≠ []) : boxesB (bs ++ [bs.getD 0 default]) = false := by
  cases bs with
  | nil => exact absurd rfl h
  | cons y l =>
    cases e : boxesB ((y :: l) ++ [(y :: l).getD 0 default]) with
    | false => rfl
    | true =>
      rw [boxesB_iff] at e
      obtain ⟨_, h2, _⟩ := e
      simp [idsB, List.getD] at h2
theorem boxesB_take {bs : List Bx} (h : boxesB bs = true) (k : Nat) : boxesB (bs.take k) = true := by
  rw [boxesB_iff] at h ⊢
  obtain ⟨h1, h2, h3⟩ := h
  refine ⟨fun y hy => h1 y (List.mem_of_mem_take hy), ?_, by simp; omega⟩
  have : idsB (bs.take k) = (idsB bs).take k := by simp [idsB, List.map_take]
  rw [this]
  exact h2.sublist (List.take_sublist _ _)

theorem findV_at {bs : List Bx} (h : boxesB bs = true) {k : Nat} (hk : k < bs.length) : findV bs (bs.getD k default).id = k := by
  rw [findV, if_pos h, ← idsB_get bs k hk]
  exact ixOf_nodup _ ((boxesB_iff bs).1 h).2.1 k (by rw [idsB_len]; exact hk)
theorem findV_none {bs : List Bx} {x : Int} (h : boxesB bs = true) (hx : findV bs x < 0) {k : Nat} (hk : k < bs.length) : ((bs.getD k default).id == x) = false := by
  rw [beq_eq_false_iff_ne]
  rintro rfl
  rw [findV_at h hk] at hx
  omega
theorem findV_ge (bs : List Bx) (x : Int) : -1 ≤ findV bs x := by
  rw [findV]
  split
  · exact ixOf_ge _ _
  · omega
theorem findV_lt (bs : List Bx) (x : Int) : findV bs x < bs.length := by
  rw [findV]
  split
  · have := ixOf_lt (idsB bs) x
    rwa [idsB_len] at this
  · omega
theorem findV_id {bs : List Bx} {x : Int} (hx : 0 ≤ findV bs x) : (bs.getD (findV bs x).toNat default).id = x := by
  have hl := findV_lt bs x
  rw [findV] at hx hl ⊢
  split at hx
  · rename_i h
    rw [if_pos h] at hl ⊢
    rw [← idsB_get bs _ (by omega)]
    exact ixOf_get _ _ hx
  · omega

def wOf (bs : List Bx) (x : Int) : Int := (bs.getD (ixOf (idsB bs) x).toNat default).wt
def wAll (bs : List Bx) : List Int → Int
  | [] => 0
  | x :: l => wOf bs x + wAll bs l
theorem wOf_in {bs : List Bx} (h : boxesB bs = true) {x : Int} (hx : 0 ≤ ixOf (idsB bs) x) : 1 ≤ wOf bs x ∧ wOf bs x ≤ 30 := by
  have hl := ixOf_lt (idsB bs) x
  rw [idsB_len] at hl
  have hm : bs.getD (ixOf (idsB bs) x).toNat default ∈ bs := by
    rw [List.getD, List.getElem?_eq_getElem (show (ixOf (idsB bs) x).toNat < bs.length by omega)]
    exact List.getElem_mem _
  have := ((boxesB_iff bs).1 h).1 _ hm
  simp only [bxB, boxB, Bool.and_eq_true, inR, decide_eq_true_iff] at this
  exact ⟨by have := this.1.1.2; unfold wOf; omega, by have := this.1.1.2; unfold wOf; omega⟩
theorem wAll_in {bs : List Bx} (h : boxesB bs = true) (ids : List Int) (hx : ∀ x ∈ ids, 0 ≤ ixOf (idsB bs) x) : (ids.length : Int) ≤ wAll bs ids ∧ wAll bs ids ≤ 30 * ids.length := by
  induction ids with
  | nil => simp [wAll]
  | cons x l ih =>
    have := ih fun y hy => hx y (by simp [hy])
    have h1 := wOf_in h (hx x (by simp))
    simp only [wAll, List.length_cons]
    omega
theorem wSum_all {bs : List Bx} (h : boxesB bs = true) (ids : List Int) (hx : ∀ x ∈ ids, 0 ≤ ixOf (idsB bs) x) (s : Int) (hs : 0 ≤ s) (hs' : s + 30 * ids.length ≤ 1000000) : wSum bs ids s = s + wAll bs ids := by
  induction ids generalizing s with
  | nil => simp [wSum, wAll]
  | cons x l ih =>
    have hx0 := hx x (by simp)
    have h1 := wOf_in h hx0
    simp only [List.length_cons] at hs'
    have hw : IntKind.i64.wrap (s + wOf bs x) = s + wOf bs x := IntWalk.i64_in _ (by omega)
    rw [wSum, if_neg (by omega)]
    change wSum bs l (IntKind.i64.wrap (s + wOf bs x)) = _
    rw [hw, ih (fun y hy => hx y (by simp [hy])) (s + wOf bs x) (by omega) (by omega), wAll]
    omega
theorem wSum_no {bs : List Bx} (ids : List Int) (hx : ¬ ∀ x ∈ ids, 0 ≤ ixOf (idsB bs) x) (s : Int) : wSum bs ids s = -1 := by
  induction ids generalizing s with
  | nil => exact absurd (by simp) hx
  | cons x l ih =>
    rw [wSum]
    by_cases h0 : ixOf (idsB bs) x < 0
    · rw [if_pos h0]
    · rw [if_neg h0]
      refine ih (fun hl => hx fun y hy => ?_) _
      rcases List.mem_cons.1 hy with rfl | hy
      · omega
      · exact hl y hy
theorem wAll_append (bs : List Bx) (a b : List Int) : wAll bs (a ++ b) = wAll bs a + wAll bs b := by
  induction a with
  | nil => simp [wAll]
  | cons x l ih => simp only [List.cons_append, wAll, ih]; omega
/-- the weight of some is that of the first ones and that of the others, and no less than their number -/
theorem weightV_parts {bs : List Bx} {ids : List Int} (hl : ids.length ≤ 1000) (h : 0 ≤ weightV bs ids) (k : Nat) :
    weightV bs (ids.take k) + weightV bs (ids.drop k) = weightV bs ids ∧ (ids.length : Int) ≤ weightV bs ids ∧ 0 ≤ weightV bs (ids.take k) ∧ weightV bs (ids.take k) ≤ 30000 ∧ 0 ≤ weightV bs (ids.drop k) ∧ weightV bs (ids.drop k) ≤ 30000 := by
  have hb : boxesB bs = true := by
    cases e : boxesB bs with
    | true => rfl
    | false => rw [weightV, e] at h; simp at h
  have hx : ∀ x ∈ ids, 0 ≤ ixOf (idsB bs) x := by
    refine Classical.byContradiction fun hn => ?_
    rw [weightV, if_pos hb, wSum_no ids hn] at h
    omega
  have key : ∀ l : List Int, (∀ x ∈ l, x ∈ ids) → l.length ≤ 1000 → weightV bs l = wAll bs l ∧ (l.length : Int) ≤ wAll bs l ∧ wAll bs l ≤ 30 * l.length := by
    intro l hm hl
    have hx' : ∀ x ∈ l, 0 ≤ ixOf (idsB bs) x := fun x hxl => hx x (hm x hxl)
    have := wAll_in hb l hx'
    refine ⟨?_, this⟩
    rw [weightV, if_pos hb, wSum_all hb l hx' 0 (by omega) (by omega)]
    omega
  obtain ⟨e1, a1, b1⟩ := key ids (fun _ h => h) hl
  obtain ⟨e2, a2, b2⟩ := key (ids.take k) (fun _ h => List.mem_of_mem_take h) (by rw [List.length_take]; omega)
  obtain ⟨e3, a3, b3⟩ := key (ids.drop k) (fun _ h => List.mem_of_mem_drop h) (by rw [List.length_drop]; omega)
  have l2 : (ids.take k).length ≤ 1000 := by rw [List.length_take]; omega
  have l3 : (ids.drop k).length ≤ 1000 := by rw [List.length_drop]; omega
  have := wAll_append bs (ids.take k) (ids.drop k)
  rw [List.take_append_drop] at this
  rw [e1, e2, e3]
  refine ⟨by omega, a1, by omega, by omega, by omega, by omega⟩
theorem weightV_ge {bs : List Bx} {ids : List Int} (hl : ids.length ≤ 1000) (h : weightV bs ids < 0) : weightV bs ids = -1 := by
  rw [weightV] at h ⊢
  split
  · rename_i hb
    rw [if_pos hb] at h
    by_cases hx : ∀ x ∈ ids, 0 ≤ ixOf (idsB bs) x
    · have h1 := wSum_all hb ids hx 0 (by omega) (by omega)
      have h2 := wAll_in hb ids hx
      omega
    · exact wSum_no ids hx 0
  · rfl
end Go.Proofs.Ytbhmbmfhbeocoaa
