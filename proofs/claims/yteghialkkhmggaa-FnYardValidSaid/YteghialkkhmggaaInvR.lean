/- A region that draws its order, walked by an invariant over what has come up: each operation is shown once. Conditions: those in each statement. -/
import Derived.Test.YteghialkkhmggaaSS
import Derived.Maps.AppendAt
namespace Go.Proofs.Yteghialkkhmggaa
open Go.RowKit
set_option linter.unusedVariables false

theorem count_set_true : ∀ (l : List Bool) (i : Nat), l[i]? = some false → (l.set i true).count false + 1 = l.count false
  | [], i, h => by simp at h
  | b :: l, 0, h => by
    have hb : b = false := by simpa using h
    subst hb
    simp
  | b :: l, i + 1, h => by
    have h' : l[i]? = some false := by simpa using h
    have ih := count_set_true l i h'
    simp only [List.set_cons_succ, List.count_cons]
    omega

/-- an invariant over the listed operations: each operation that may come up keeps it -/
theorem wpAny_inv {P : Program} {md : Region.Mode} {ops : Array Oper} {Q : Exit → Act → World → Prop} (I : Array Bool → Act → World → Prop)
    (hd : ∀ listed a w, I listed a w → Region.ready md ops listed = [] → Q .normal a w)
    (hs : ∀ listed a w i, I listed a w → i ∈ Region.ready md ops listed → wpOp P ops Q i (fun a' w' => I (listed.setIfInBounds i true) a' w') a w) :
    ∀ (fuel : Nat) (listed : Array Bool) (a : Act) (w : World), listed.toList.count false ≤ fuel → I listed a w → wpAny P md ops Q fuel listed a w := by
  have hlook : ∀ (listed : Array Bool) i, i ∈ Region.ready md ops listed → listed.toList[i]? = some false := by
    intro listed i hi
    have h := (mem_ready.1 hi).1
    rcases Nat.lt_or_ge i listed.size with h' | h'
    · simp [h'] at h
      simp [h', h]
    · simp [Array.getElem?_eq_none h'] at h
  intro fuel
  induction fuel with
  | zero =>
    intro listed a w hc hI
    have hr : Region.ready md ops listed = [] := by
      cases hr : Region.ready md ops listed with
      | nil => rfl
      | cons x xs =>
        have := hlook listed x (by rw [hr]; simp)
        have h2 : false ∈ listed.toList := List.mem_of_getElem? this
        have := List.count_pos_iff.2 h2
        omega
    exact ⟨hr, hd _ _ _ hI hr⟩
  | succ fuel ih =>
    intro listed a w hc hI
    refine ⟨fun hr => hd _ _ _ hI hr, fun i hi => wpOp_mono (fun a' w' h' => ih _ a' w' ?_ h') (hs _ _ _ i hI hi)⟩
    have := count_set_true listed.toList i (hlook listed i hi)
    rw [Array.toList_setIfInBounds]
    omega

/-- what stands while 'more' is made -/
structure Mr (W : World) (g0 : Nat) (hi : Int) (A1 : Option Addr) (n1 c1 : Nat) (vs : List Value) (b0 b1 b2 b3 b4 b5 b6 b7 b8 b9 b10 b11 : Bool) (t5 t17 t18 t19 t20 t21 t22 t23 t24 t25 t26 : Value) (w : World) : Prop where
  base : Below W.heap.size W w
  h0 : b0 = true → t17 = .pointer (some ⟨g0, 0, none⟩)
  h1 : b1 = true → t18 = .int .i64 hi
  h2 : b2 = true → b5 = false → ∃ g, t19 = .slice (some ⟨g, 0, none⟩) 0 0 ∧ W.heap.size ≤ g ∧ w.heap[g]? = some (.cells #[] 33 (0, 0))
  h3 : b3 = true → t20 = .pointer (some ⟨g0, 1, none⟩)
  h4 : b4 = true → t21 = .slice A1 n1 c1
  h5 : b5 = true → b8 = false → RowS w W.heap.size t22 n1 vs
  h6 : b6 = true → ∃ g, t23 = .slice (some ⟨g, 0, none⟩) 0 0 ∧ W.heap.size ≤ g ∧ w.heap[g]? = some (.cells #[] 3 (0, 0))
  h7 : b7 = true → b8 = false → ∃ g, t24 = .slice (some ⟨g, 0, none⟩) 1 1 ∧ W.heap.size ≤ g ∧ w.heap[g]? = some (.cells #[t23] 33 (0, 0))
  h8 : b8 = true → RowS w W.heap.size t25 (n1 + 1) (vs ++ [t23])
  h9 : b9 = true → t26 = .agg #[.int .i64 hi, t25]
  h10 : b10 = true → ∃ g, t5 = .pointer (some ⟨g, 0, none⟩) ∧ W.heap.size ≤ g ∧ (b11 = false → w.heap[g]? = some (.cells #[.int .i64 0, .slice none 0 0] 27 (0, 0))) ∧ (b11 = true → w.heap[g]? = some (.cells #[.int .i64 hi, t25] 27 (0, 0)))
  d7 : b7 = true → b6 = true
  d8 : b8 = true → b5 = true ∧ b7 = true
  d9 : b9 = true → b8 = true
  d11 : b11 = true → b9 = true ∧ b10 = true

theorem RowS.keep {w w' : World} {B n : Nat} {v : Value} {vs : List Value} (h : RowS w B v n vs) (hk : ∀ (g : Nat) cs, w.heap[g]? = some (Obj.cells cs 33 (0, 0)) → w'.heap[g]? = w.heap[g]?) : RowS w' B v n vs := by
  obtain ⟨h1, h2⟩ := h
  refine ⟨h1, ?_⟩
  rcases h2 with h2 | ⟨g, cap, cur, e, hg, hh, h5⟩
  · exact .inl h2
  · exact .inr ⟨g, cap, cur, e, hg, (hk g cur hh).trans hh, h5⟩

theorem step_rows {ops : Array Oper} {o : Oper} {a : Act} {w : World} {K : Act → World → Prop} {Q : Exit → Act → World → Prop} {E : Prop} (hw : Region.wanted o (yielded ops a.tmps) = true) (s x : Operand)
    (ho : o.op = .call { callee := .builtin .append, args := #[s, x], argTypes := #[22, 22] })
    (B : Nat) (v : Value) (n : Nat) (vs : List Value) (hs : a.eval s = v) (hown : RowS w B v n vs)
    (A : Option Addr) (m c : Nat) (news : List Value) (hx : a.eval x = .slice A m c) (hA : A = none → c = 0 ∧ m = 0) (hl : news.length = m) (hnews : ∀ ad, A = some ad → ∀ j u, news[j]? = some u → w.cell? (ad.add j) = some u)
    (h1 : ∀ u ∈ news, u.oneCell' = true) (hnm : n + m ≤ 100000000) (hB : B ≤ w.heap.size)
    (h : ∀ v' w', RowS w' B v' (n + m) (vs ++ news) → w.grownBy w' v.ownBlock → K (a.put o.dst v') w') : if Region.wanted o (yielded ops a.tmps) = true then Oper.wp Try.prog o a w K Q else E := by
  rw [if_pos hw]
  obtain ⟨i0, hi, hz0, hz1, hz2⟩ := info_parts ss_info
  have key : ∃ v' w', (Builtin.append_ #[22, 22] o.type #[v, .slice A m c]).run Try.prog w = .ok v' w' ∧ RowS w' B v' (n + m) (vs ++ news) ∧ w.grownBy w' v.ownBlock := by
    cases A with
    | none =>
      obtain ⟨rfl, rfl⟩ := hA rfl
      have hy : news = [] := List.eq_nil_of_length_eq_zero hl
      subst hy
      exact ⟨v, w, run_append_owned_none (P := Try.prog) (w := w) B 22 o.type 33 i0 1 Try.underlying22 hi v n vs hown, by simpa using hown, World.grownBy.refl w _⟩
    | some ad =>
      obtain ⟨v', w', k1, k2, k3, _, _⟩ := run_append_own_at (P := Try.prog) w B 22 o.type 33 i0 _ 1 24 Try.underlying22 hi hz0 hz1 hz2 rfl (by omega) v n vs hown ad m c news (by omega) (hnews ad rfl) h1 (by unfold maxLen; omega) (by omega) hB
      exact ⟨v', w', k1, k2, k3⟩
  obtain ⟨v', w', k1, k2, k3⟩ := key
  unfold Oper.wp
  simp [execOp, ho, resolve, invoke, builtin, hs, hx, k1, Result.andThen]
  exact h v' w' k2 k3

theorem Mr.move {W : World} {g0 : Nat} {hi : Int} {A1 : Option Addr} {n1 c1 : Nat} {vs : List Value} {b0 b1 b2 b3 b4 b5 b6 b7 b8 b9 b10 b11 : Bool} {t5 t17 t18 t19 t20 t21 t22 t23 t24 t25 t26 : Value} {w w' : World} (h : Mr W g0 hi A1 n1 c1 vs b0 b1 b2 b3 b4 b5 b6 b7 b8 b9 b10 b11 t5 t17 t18 t19 t20 t21 t22 t23 t24 t25 t26 w)
    (hb : Below W.heap.size w w') (hk : ∀ (g : Nat) o, w.heap[g]? = some o → w'.heap[g]? = some o) : Mr W g0 hi A1 n1 c1 vs b0 b1 b2 b3 b4 b5 b6 b7 b8 b9 b10 b11 t5 t17 t18 t19 t20 t21 t22 t23 t24 t25 t26 w' :=
  { h with
    base := h.base.trans hb
    h2 := fun e1 e2 => by
      obtain ⟨g, k1, k2, k3⟩ := h.h2 e1 e2
      exact ⟨g, k1, k2, hk _ _ k3⟩
    h5 := fun e1 e2 => (h.h5 e1 e2).keep fun g cs e => (hk _ _ e).trans e.symm
    h6 := fun e1 => by
      obtain ⟨g, k1, k2, k3⟩ := h.h6 e1
      exact ⟨g, k1, k2, hk _ _ k3⟩
    h7 := fun e1 e2 => by
      obtain ⟨g, k1, k2, k3⟩ := h.h7 e1 e2
      exact ⟨g, k1, k2, hk _ _ k3⟩
    h8 := fun e1 => (h.h8 e1).keep fun g cs e => (hk _ _ e).trans e.symm
    h10 := fun e1 => by
      obtain ⟨g, k1, k2, k3, k4⟩ := h.h10 e1
      exact ⟨g, k1, k2, fun e => hk _ _ (k3 e), fun e => hk _ _ (k4 e)⟩ }
theorem Mr.alloc {W : World} {g0 : Nat} {hi : Int} {A1 : Option Addr} {n1 c1 : Nat} {vs : List Value} {b0 b1 b2 b3 b4 b5 b6 b7 b8 b9 b10 b11 : Bool} {t5 t17 t18 t19 t20 t21 t22 t23 t24 t25 t26 : Value} {w : World} (h : Mr W g0 hi A1 n1 c1 vs b0 b1 b2 b3 b4 b5 b6 b7 b8 b9 b10 b11 t5 t17 t18 t19 t20 t21 t22 t23 t24 t25 t26 w) (o : Obj) :
    Mr W g0 hi A1 n1 c1 vs b0 b1 b2 b3 b4 b5 b6 b7 b8 b9 b10 b11 t5 t17 t18 t19 t20 t21 t22 t23 t24 t25 t26 (w.alloc o) :=
  h.move ((Below.refl _ _).alloc h.base.size o) (fun g x e => (heap_alloc_old w o (heap_lt' e)).trans e)
theorem no_tf {b : Bool} {p : Prop} (h : b = true → false = true) : b = true → p := fun e => absurd (h e) (by decide)
end Go.Proofs.Yteghialkkhmggaa
