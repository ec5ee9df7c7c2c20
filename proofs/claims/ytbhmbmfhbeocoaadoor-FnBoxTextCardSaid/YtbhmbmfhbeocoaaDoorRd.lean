/- The contracts of the reader of codes: l20Open, pick, odd: a number in range, and only the reader's own block turned. Conditions: that fewer than a million numbers are drawn. -/
import Derived.Test.YtbhmbmfhbeocoaaDoorProg
import Derived.Test.YtbhmbmfhbeocoaaDoorKit
import Derived.Laws.BitsAllLaws
import Derived.Laws.BitsLemmas
namespace Go.Proofs.YtbhmbmfhbeocoaaDoor
open Go.RowKit
set_option linter.unusedVariables false

/-- the slice A, n, c of bytes reads as zs, and lies below block B -/
def CodeIs (w : World) (B : Nat) (A : Option Addr) (n c : Nat) (zs : List Int) : Prop :=
  n ≤ c ∧ c ≤ maxLen ∧ (0 < n → ∃ b off, A = some ⟨b, off, none⟩ ∧ b < B ∧ ∀ j, j < n → w.cell? ⟨b, off + j, none⟩ = some (.int .u8 (zs.getD j 0)) ∧ 0 ≤ zs.getD j 0 ∧ zs.getD j 0 ≤ 255)
/-- block g is the reader of the code, and p numbers have been drawn -/
def Rd (w : World) (B g : Nat) (A : Option Addr) (n c : Nat) (zs : List Int) (p : Int) : Prop :=
  w.heap[g]? = some (.cells #[.slice A n c, .int .i64 p] 62 (0, 0)) ∧ B ≤ g ∧ CodeIs w B A n c zs

def RdOk (w : World) (B g : Nat) (N : Nat) : Prop := ∃ (A : Option Addr) (n c : Nat) (zs : List Int) (p : Int), 0 ≤ p ∧ p ≤ N ∧ Rd w B g A n c zs p

theorem CodeIs.keep {w w' : World} {B : Nat} {A : Option Addr} {n c : Nat} {zs : List Int} (h : CodeIs w B A n c zs) (hk : ∀ b o, b < B → w'.cell? ⟨b, o, none⟩ = w.cell? ⟨b, o, none⟩) : CodeIs w' B A n c zs := by
  obtain ⟨h1, h2, h3⟩ := h
  refine ⟨h1, h2, fun hn => ?_⟩
  obtain ⟨b, off, e, hb, hc⟩ := h3 hn
  exact ⟨b, off, e, hb, fun j hj => ⟨(hk _ _ hb).trans (hc j hj).1, (hc j hj).2⟩⟩

theorem heap_lt_of_some {w : World} {g : Nat} {o : Obj} (h : w.heap[g]? = some o) : g < w.heap.size := by
  rcases Nat.lt_or_ge g w.heap.size with hlt | hge
  · exact hlt
  · rw [Array.getElem?_eq_none hge] at h; cases h

theorem RdOk.lt {w : World} {B g N : Nat} (h : RdOk w B g N) : g < w.heap.size := by
  obtain ⟨A, n, c, zs, p, _, _, h, _⟩ := h
  exact heap_lt_of_some h
theorem RdOk.ge {w : World} {B g N : Nat} (h : RdOk w B g N) : B ≤ g := by
  obtain ⟨A, n, c, zs, p, _, _, _, h, _⟩ := h
  exact h
/-- the reader stays where only blocks from above, or others than its own, have turned -/
theorem RdOk.keep {w w' : World} {B g N : Nat} (h : RdOk w B g N) (hb : Below w.heap.size w w') : RdOk w' B g N := by
  have hlt := h.lt
  obtain ⟨A, n, c, zs, p, h0, h1, h2, h3, h4⟩ := h
  exact ⟨A, n, c, zs, p, h0, h1, (hb.block g hlt).trans h2, h3, h4.keep fun b o hB => hb.cell (p := ⟨b, o, none⟩) (by simp; omega)⟩
theorem RdOk.alloc {w : World} {B g N : Nat} (h : RdOk w B g N) (o : Obj) : RdOk (w.alloc o) B g N := h.keep ((Below.refl _ _).alloc (Nat.le_refl _) _)
theorem RdOk.drew {w : World} {B g N : Nat} (h : RdOk w B g N) : RdOk w.drew B g N := h
theorem RdOk.drewN {w : World} {B g N : Nat} (h : RdOk w B g N) (k : Nat) : RdOk (w.drewN k) B g N := h
theorem RdOk.setCell {w : World} {B g N : Nat} (h : RdOk w B g N) {a : Addr} (ha : a.block ≠ g) (hB : B ≤ a.block) (v : Value) : RdOk (w.setCell a v) B g N := by
  obtain ⟨A, n, c, zs, p, h0, h1, h2, h3, h4⟩ := h
  exact ⟨A, n, c, zs, p, h0, h1, (Below.heap_setCell w a v g (fun e => ha e.symm)).trans h2, h3, h4.keep fun b o hb => World.cell?_setCell_other w a ⟨b, o, none⟩ v (fun e => by subst e; simp at hB; omega)⟩
theorem RdOk.more {w : World} {B g N M : Nat} (h : RdOk w B g N) (hM : N ≤ M) : RdOk w B g M := by
  obtain ⟨A, n, c, zs, p, h0, h1, h2⟩ := h
  exact ⟨A, n, c, zs, p, h0, by omega, h2⟩

/-- what a draw leaves: a number in range, the reader one further, only its own block turned -/
def PickPost (w : World) (B g N : Nat) (n : Int) (e : Ending) (w' : World) : Prop :=
  ∃ x : Int, e = .returned (.int .i64 x) ∧ 0 ≤ x ∧ (x < n ∨ x = 0) ∧ RdOk w' B g (N + 1) ∧ w.grownBy w' (some g)

theorem ofInt_i64 (a : Nat) (ha : a < 9223372036854775808) : (BitVec.ofInt 64 (a : Int)).toNat = a := by
  rw [BitVec.ofInt_natCast, BitVec.toNat_ofNat]; exact Nat.mod_eq_of_lt (by omega)
theorem i64_xor_nat (a b : Nat) (ha : a < 9223372036854775808) (hb : b < 9223372036854775808) : bits .xor .i64 (a : Int) (b : Int) = ((a ^^^ b : Nat) : Int) := by
  have hx : a ^^^ b < 2 ^ 63 := Nat.xor_lt_two_pow (by omega) (by omega)
  show IntKind.i64.wrap ((BitVec.ofInt 64 (a : Int) ^^^ BitVec.ofInt 64 (b : Int)).toNat : Int) = _
  rw [BitVec.toNat_xor, ofInt_i64 a ha, ofInt_i64 b hb, IntKind.wrap_i64]
  omega
theorem xor_tmod (X n : Int) (h0 : 0 ≤ X) (h1 : X ≤ 1000000000) (hn : 1 ≤ n) : 0 ≤ (bits BinOp.xor IntKind.i64 X (X / 64)).tmod n ∧ (bits BinOp.xor IntKind.i64 X (X / 64)).tmod n < n := by
  obtain ⟨m, rfl⟩ := Int.eq_ofNat_of_zero_le h0
  have e : ((m : Int) / 64) = ((m / 64 : Nat) : Int) := by omega
  rw [e, i64_xor_nat m (m / 64) (by omega) (by omega), Int.tmod_eq_emod_of_nonneg (by omega)]
  exact ⟨Int.emod_nonneg _ (by omega), Int.emod_lt_of_pos _ (by omega)⟩

set_option maxHeartbeats 800000 in
theorem pick_far (B g : Nat) (b off : Nat) (len c : Nat) (p k1 k2 k3 : Nat) (n a d X : Int) (w : World) (hp' : (p : Int) ≤ 1000000) (c0 : w.cell? ⟨g, 0, none⟩ = some (.slice (some ⟨b, off, none⟩) len c)) (c1 : w.cell? ⟨g, 1, none⟩ = some (.int .i64 p)) (f1 : w.frozen? ⟨g, 1, none⟩ = false) (hn : 1 ≤ n)
    (hl : ((len : Int) == 0) = false) (hl' : 1 ≤ (len : Int)) (hk : (len : Int) ≤ p) (hne : ¬ b = g)
    (cc1 : w.cell? ⟨b, off + k1, none⟩ = some (.int .u8 a)) (cc2 : w.cell? ⟨b, off + k2, none⟩ = some (.int .u8 d)) (a0 : 0 ≤ a) (a1 : a ≤ 255) (d0 : 0 ≤ d) (d1 : d ≤ 255)
    (l1 : (k1 : Int) < len) (l2 : (k2 : Int) < len) (l3 : (k3 : Int) ≤ p)
    (m1 : (p : Int).tmod len = k1) (m2 : ((p : Int) * 7 + 3).tmod len = k2) (m3 : (p : Int).tdiv len = k3) (hX : a * 131 + d * 1117 + p * 29 + k3 * 53 = X) :
    Calls Tryd.prog 28 #[.pointer (some ⟨g, 0, none⟩), .int .i64 n] w fun e w' => ∃ (x : Int) (k : Nat), e = .returned (.int .i64 x) ∧ 0 ≤ x ∧ x < n ∧ w' = (w.setCell ⟨g, 1, none⟩ (.int .i64 (p + 1))).drewN k := by
  have x0 : 0 ≤ X := by omega
  have x1 : X ≤ 1000000000 := by omega
  have z1 : ¬ len = 0 := by omega
  have z2 : ¬ (len : Int) = 0 := by omega
  have g1 : (0 : Int) ≤ k1 := by omega
  have g2 : (0 : Int) ≤ k2 := by omega
  have u1 : IntKind.i64.wrap ((p : Int) * 7) = p * 7 := IntWalk.i64_in _ (by omega)
  have u2 : IntKind.i64.wrap ((p : Int) * 7 + 3) = p * 7 + 3 := IntWalk.i64_in _ (by omega)
  have u3 : IntKind.i64.wrap (a * 131) = a * 131 := IntWalk.i64_in _ (by omega)
  have u4 : IntKind.i64.wrap (d * 1117) = d * 1117 := IntWalk.i64_in _ (by omega)
  have u5 : IntKind.i64.wrap (a * 131 + d * 1117) = a * 131 + d * 1117 := IntWalk.i64_in _ (by omega)
  have u6 : IntKind.i64.wrap ((p : Int) * 29) = p * 29 := IntWalk.i64_in _ (by omega)
  have u7 : IntKind.i64.wrap (a * 131 + d * 1117 + p * 29) = a * 131 + d * 1117 + p * 29 := IntWalk.i64_in _ (by omega)
  have u8 : IntKind.i64.wrap ((k3 : Int) * 53) = k3 * 53 := IntWalk.i64_in _ (by omega)
  have u9 : IntKind.i64.wrap (a * 131 + d * 1117 + p * 29 + k3 * 53) = X := by rw [hX]; exact IntWalk.i64_in _ (by omega)
  have v1 : IntKind.i64.wrap (k1 : Int) = k1 := IntWalk.i64_in _ (by omega)
  have v2 : IntKind.i64.wrap (k2 : Int) = k2 := IntWalk.i64_in _ (by omega)
  have v3 : IntKind.i64.wrap (k3 : Int) = k3 := IntWalk.i64_in _ (by omega)
  have HX := Lib.hid hX
  have M1 := Lib.hid m1
  clear hX m1
  go_enter Tryd.func28, Tryd.ntmps28
  go_wp2_with (fail)
  have m1 := M1.out
  go_quiet (fail)
  clear u1 u2 u3 u4 u5 u6 u7 u8 u9 v1 v2 v3 m1 m2 m3
  go_wp2_with (fail)
  go_ret
  obtain ⟨y0, y1⟩ := xor_tmod X n x0 x1 hn
  exact ⟨_, _, rfl, y0, y1, rfl⟩

set_option maxHeartbeats 400000 in
theorem pick_low (g : Nat) (A : Option Addr) (len c p : Nat) (n : Int) (w : World) (hp' : (p : Int) ≤ 1000000) (c0 : w.cell? ⟨g, 0, none⟩ = some (.slice A len c)) (c1 : w.cell? ⟨g, 1, none⟩ = some (.int .i64 p)) (f1 : w.frozen? ⟨g, 1, none⟩ = false) (hn : n < 1) :
    Calls Tryd.prog 28 #[.pointer (some ⟨g, 0, none⟩), .int .i64 n] w fun e w' => e = .returned (.int .i64 0) ∧ ∃ k : Nat, w' = (w.setCell ⟨g, 1, none⟩ (.int .i64 (p + 1))).drewN k := by
  go_enter Tryd.func28, Tryd.ntmps28
  go_wp2_with (fail)
  go_ret
  exact ⟨rfl, 0, rfl⟩
set_option maxHeartbeats 400000 in
theorem pick_empty (g : Nat) (A : Option Addr) (c p : Nat) (n : Int) (w : World) (hp' : (p : Int) ≤ 1000000) (c0 : w.cell? ⟨g, 0, none⟩ = some (.slice A 0 c)) (c1 : w.cell? ⟨g, 1, none⟩ = some (.int .i64 p)) (f1 : w.frozen? ⟨g, 1, none⟩ = false) (hn : 1 ≤ n) :
    Calls Tryd.prog 28 #[.pointer (some ⟨g, 0, none⟩), .int .i64 n] w fun e w' => e = .returned (.int .i64 0) ∧ ∃ k : Nat, w' = (w.setCell ⟨g, 1, none⟩ (.int .i64 (p + 1))).drewN k := by
  go_enter Tryd.func28, Tryd.ntmps28
  go_wp2_with (fail)
  go_ret
  exact ⟨rfl, 0, rfl⟩
set_option maxHeartbeats 400000 in
theorem pick_near (g b off len c p : Nat) (n a : Int) (w : World) (hp' : (p : Int) ≤ 1000000) (c0 : w.cell? ⟨g, 0, none⟩ = some (.slice (some ⟨b, off, none⟩) len c)) (c1 : w.cell? ⟨g, 1, none⟩ = some (.int .i64 p)) (f1 : w.frozen? ⟨g, 1, none⟩ = false) (hn : 1 ≤ n)
    (hl : ((len : Int) == 0) = false) (hk : (p : Int) < len) (hne : ¬ b = g) (cc : w.cell? ⟨b, off + p, none⟩ = some (.int .u8 a)) (q0 : 0 ≤ a) (q1 : a ≤ 255) :
    Calls Tryd.prog 28 #[.pointer (some ⟨g, 0, none⟩), .int .i64 n] w fun e w' => ∃ (x : Int) (k : Nat), e = .returned (.int .i64 x) ∧ 0 ≤ x ∧ x < n ∧ w' = (w.setCell ⟨g, 1, none⟩ (.int .i64 (p + 1))).drewN k := by
  go_enter Tryd.func28, Tryd.ntmps28
  go_wp2_with (fail)
  go_ret
  exact ⟨_, 0, rfl, Int.emod_nonneg _ (by omega), Int.emod_lt_of_pos _ (by omega), rfl⟩

theorem pick_end {w : World} {B g N : Nat} {A : Option Addr} {n c : Nat} {zs : List Int} {p : Int} (h0 : 0 ≤ p) (h1 : p ≤ N) (h : Rd w B g A n c zs p) (k : Nat) :
    RdOk ((w.setCell ⟨g, 1, none⟩ (.int .i64 (p + 1))).drewN k) B g (N + 1) ∧ w.grownBy ((w.setCell ⟨g, 1, none⟩ (.int .i64 (p + 1))).drewN k) (some g) := by
  obtain ⟨h2, h3, h4⟩ := h
  have hlt := heap_lt_of_some h2
  constructor
  · refine ⟨A, n, c, zs, p + 1, by omega, by simp; omega, ?_, h3, ?_⟩
    · show (w.setCell ⟨g, 1, none⟩ (.int .i64 (p + 1))).heap[g]? = _
      simp [World.setCell, Array.getElem?_modify, h2]
    · exact h4.keep fun b o hb => World.cell?_setCell_other w ⟨g, 1, none⟩ ⟨b, o, none⟩ _ (fun e => by injection e; omega)
  · refine ⟨rfl, rfl, rfl, ?_, fun i hi hne => ?_⟩
    · show w.heap.size ≤ (w.setCell _ _).heap.size
      simp [World.setCell]
    · exact Below.heap_setCell w ⟨g, 1, none⟩ _ i (fun e => hne (by rw [e]))

theorem pick_any (B g N : Nat) (n : Int) (w : World) (h : RdOk w B g N) (hN : N ≤ 1000000) :
    Calls Tryd.prog 28 #[.pointer (some ⟨g, 0, none⟩), .int .i64 n] w (PickPost w B g N n) := by
  obtain ⟨A, len, c, zs, p, h0, h1, hr⟩ := h
  obtain ⟨q, rfl⟩ := Int.eq_ofNat_of_zero_le h0
  have hr' := hr
  obtain ⟨h2, h3, h4, h5, h6⟩ := hr'
  have c0 : w.cell? ⟨g, 0, none⟩ = some (.slice A len c) := by simp [World.cell?, h2]
  have c1 : w.cell? ⟨g, 1, none⟩ = some (.int .i64 q) := by simp [World.cell?, h2]
  have f1 : w.frozen? ⟨g, 1, none⟩ = false := by simp [World.frozen?, h2]
  have hq : (q : Int) ≤ 1000000 := by omega
  by_cases hn : n < 1
  · exact (pick_low g A len c q n w hq c0 c1 f1 hn).mono fun e w' ⟨he, k, hw⟩ => by
      obtain ⟨e1, e2⟩ := pick_end h0 h1 hr k
      subst hw
      exact ⟨0, he, by omega, .inr rfl, e1, e2⟩
  · rcases Nat.eq_zero_or_pos len with hl | hl
    · subst hl
      exact (pick_empty g A c q n w hq c0 c1 f1 (by omega)).mono fun e w' ⟨he, k, hw⟩ => by
        obtain ⟨e1, e2⟩ := pick_end h0 h1 hr k
        subst hw
        exact ⟨0, he, by omega, .inr rfl, e1, e2⟩
    · obtain ⟨b, off, rfl, hb, hc⟩ := h6 hl
      have hl' : ((len : Int) == 0) = false := beq_eq_false_iff_ne.2 (by omega)
      by_cases hk : q < len
      · obtain ⟨cc, q0, q1⟩ := hc q hk
        exact (pick_near g b off len c q n _ w hq c0 c1 f1 (by omega) hl' (by omega) (by omega) cc q0 q1).mono fun e w' ⟨x, k, he, x0, x1, hw⟩ => by
          obtain ⟨e1, e2⟩ := pick_end h0 h1 hr k
          subst hw
          exact ⟨x, he, x0, .inl x1, e1, e2⟩
      · have l1 : q % len < len := Nat.mod_lt _ hl
        have l2 : (q * 7 + 3) % len < len := Nat.mod_lt _ hl
        obtain ⟨cc1, a0, a1⟩ := hc (q % len) l1
        obtain ⟨cc2, d0, d1⟩ := hc ((q * 7 + 3) % len) l2
        have l3 : q / len ≤ q := Nat.div_le_self _ _
        exact (pick_far B g b off len c q (q % len) ((q * 7 + 3) % len) (q / len) n _ _ _ w hq c0 c1 f1 (by omega) hl' (by omega) (by omega) (by omega) cc1 cc2 a0 a1 d0 d1
          (Int.ofNat_lt.2 l1) (Int.ofNat_lt.2 l2) (Int.ofNat_le.2 l3)
          (by rw [Int.tmod_eq_emod_of_nonneg (by omega)]; rfl) (by rw [Int.tmod_eq_emod_of_nonneg (by omega)]; rfl) (by rw [Int.tdiv_eq_ediv_of_nonneg (by omega)]; rfl) rfl).mono fun e w' ⟨x, k, he, x0, x1, hw⟩ => by
          obtain ⟨e1, e2⟩ := pick_end h0 h1 hr k
          subst hw
          exact ⟨x, he, x0, .inl x1, e1, e2⟩

theorem code_of_row {w : World} {A : Option Addr} {n c : Nat} {zs : List Int} (h : IsRow .u8 w A n c zs) : CodeIs w w.heap.size A n c zs := by
  rcases h with ⟨rfl, rfl, rfl, rfl⟩ | ⟨x, rfl, hl, hm, hz, hcell, hwz⟩
  · exact ⟨Nat.le_refl _, Nat.zero_le _, fun h => absurd h (by omega)⟩
  · refine ⟨hl, hm, fun hn => ?_⟩
    obtain ⟨b, off, spot⟩ := x
    have hc0 := hcell 0 (by omega)
    have hspot : spot = none := by simpa [Addr.add] using World.cell?_spot hc0
    subst hspot
    have hb : b < w.heap.size := by simpa [Addr.add] using World.block_lt_of_cell? _ _ hc0
    refine ⟨b, off, rfl, hb, fun j hj => ?_⟩
    have hc := hcell j (by omega)
    have hw := bounds_u8 (hwz (zs.getD j 0) (by
      have e : zs.getD j 0 = zs[j]'(by omega) := by simp [List.getD, List.getElem?_eq_getElem (show j < zs.length by omega)]
      rw [e]; exact List.getElem_mem _))
    refine ⟨?_, hw.1, hw.2⟩
    rw [← hc]
    unfold Addr.add
    by_cases h0 : j = 0
    · subst h0; simp
    · simp [h0]
theorem CodeIs.cut {w : World} {B : Nat} {A : Option Addr} {n c : Nat} {zs : List Int} (h : CodeIs w B A n c zs) {m : Nat} (hm : m ≤ n) : CodeIs w B A m c zs := by
  obtain ⟨h1, h2, h3⟩ := h
  refine ⟨by omega, h2, fun hn => ?_⟩
  obtain ⟨b, off, e, hb, hc⟩ := h3 (by omega)
  exact ⟨b, off, e, hb, fun j hj => hc j (by omega)⟩

def OpenPost (w : World) (e : Ending) (w' : World) : Prop :=
  ∃ g : Nat, e = .returned (.pointer (some ⟨g, 0, none⟩)) ∧ RdOk w' w.heap.size g 0 ∧ Below w.heap.size w w'

theorem open_end {w : World} {A : Option Addr} {n c : Nat} {zs : List Int} (h : CodeIs w w.heap.size A n c zs) :
    RdOk (w.alloc (.cells #[.slice A n c, .int .i64 0] 62)) w.heap.size w.heap.size 0 ∧ Below w.heap.size w (w.alloc (.cells #[.slice A n c, .int .i64 0] 62)) := by
  refine ⟨⟨A, n, c, zs, 0, Int.le_refl _, Int.le_refl _, heap_alloc_new w _, Nat.le_refl _, h.keep fun b o hb => World.cell?_alloc_lt w _ ⟨b, o, none⟩ hb⟩, (Below.refl _ _).alloc (Nat.le_refl _) _⟩

set_option maxHeartbeats 400000 in
theorem l20Open_any (A : Option Addr) (n c : Nat) (zs : List Int) (w : World) (h : IsRow .u8 w A n c zs) :
    Calls Tryd.prog 26 #[.slice A n c] w (OpenPost w) := by
  have H := Lib.hid (code_of_row h)
  clear h
  by_cases h2 : 2000 < n
  · have h3 : (2000 : Int) < n := by omega
    have hnc : (n : Int) ≤ c := by have := H.out.1; omega
    have h4 : (2000 : Int) ≤ c := by omega
    go_enter Tryd.func26, Tryd.ntmps26
    go_wp2_with (fail)
    all_goals go_ret
    all_goals exact ⟨_, rfl, open_end (H.out.cut (m := 2000) (by omega))⟩
  · have h3 : (n : Int) ≤ 2000 := by omega
    go_enter Tryd.func26, Tryd.ntmps26
    go_wp2_with (fail)
    go_ret
    exact ⟨_, rfl, open_end H.out⟩

def OddPost (w : World) (B g N : Nat) (e : Ending) (w' : World) : Prop :=
  ∃ b : Bool, e = .returned (.bool b) ∧ RdOk w' B g (N + 1) ∧ w.grownBy w' (some g)

set_option maxHeartbeats 400000 in
theorem odd_any (B g N : Nat) (n : Int) (w : World) (h : RdOk w B g N) (hN : N ≤ 1000000) (hn' : n ≤ 1000000) :
    Calls Tryd.prog 37 #[.pointer (some ⟨g, 0, none⟩), .int .i64 n] w (OddPost w B g N) := by
  by_cases hn : 0 < n
  · go_enter Tryd.func37, Tryd.ntmps37
    go_wp2_with (go_at_call 28; refine (pick_any B g N n _ h hN).mono ?_; rintro e w1 ⟨x, rfl, hx0, hx1, hr, hg⟩)
    go_ret
    exact ⟨_, rfl, hr, hg⟩
  · go_enter Tryd.func37, Tryd.ntmps37
    go_wp2_with (fail)
    go_ret
    exact ⟨false, rfl, h.more (by omega), World.grownBy.refl w _⟩

theorem gcell {W w1 : World} {g : Nat} (hg : W.grownBy w1 (some g)) : (∀ b o, b < W.heap.size → ¬ b = g → w1.cell? ⟨b, o, none⟩ = W.cell? ⟨b, o, none⟩) ∧ (∀ b o, b < W.heap.size → ¬ b = g → w1.frozen? ⟨b, o, none⟩ = W.frozen? ⟨b, o, none⟩) :=
  ⟨fun b o h hne => World.cell?_of_block (hg.block b h (fun e => hne (by injection e))), fun b o h hne => World.frozen?_of_block (hg.block b h (fun e => hne (by injection e)))⟩
theorem below_of_grown {B g : Nat} {w w' : World} (h : w.grownBy w' (some g)) (hg : B ≤ g) (hB : B ≤ w.heap.size) : Below B w w' :=
  ⟨h.os, h.tape, h.output, h.size, fun k hk => h.block k (by omega) (fun e => by injection e with e; omega)⟩
theorem only_step {a b c : World} {g : Nat} (h : b.grownBy c (some g)) (k : a.grownBy b (some g)) : a.grownBy c (some g) :=
  ⟨h.os.trans k.os, h.tape.trans k.tape, h.output.trans k.output, Nat.le_trans k.size h.size, fun i hi hne => (h.block i (Nat.lt_of_lt_of_le hi k.size) hne).trans (k.block i hi hne)⟩
theorem only_drewN {a w : World} {row : Option Nat} (h : a.grownBy w row) (n : Nat) : a.grownBy (w.drewN n) row := ⟨h.os, h.tape, h.output, h.size, h.block⟩
theorem only_drew {a w : World} {row : Option Nat} (h : a.grownBy w row) : a.grownBy w.drew row := ⟨h.os, h.tape, h.output, h.size, h.block⟩
theorem only_alloc {a w : World} {row : Option Nat} (h : a.grownBy w row) (o : Obj) : a.grownBy (w.alloc o) row :=
  ⟨h.os, h.tape, h.output, Nat.le_trans h.size (by simp), fun i hi hne => (Below.heap_alloc w o i (Nat.lt_of_lt_of_le hi h.size)).trans (h.block i hi hne)⟩
theorem only_setCell {a w : World} {row : Option Nat} (h : a.grownBy w row) {p : Addr} (hp : a.heap.size ≤ p.block) (u : Value) : a.grownBy (w.setCell p u) row :=
  ⟨h.os, h.tape, h.output, by simpa [World.setCell] using h.size, fun i hi hne => (Below.heap_setCell w p u i (by omega)).trans (h.block i hi hne)⟩
theorem only_below {a b c : World} {row : Option Nat} (hb : Below b.heap.size b c) (h : a.grownBy b row) : a.grownBy c row :=
  ⟨hb.os.trans h.os, hb.tape.trans h.tape, hb.output.trans h.output, Nat.le_trans h.size hb.size, fun i hi hn => (hb.block i (Nat.lt_of_lt_of_le hi h.size)).trans (h.block i hi hn)⟩

/-- what a drawer leaves lies below B as it was, if the reader lies from B on -/
theorem below_grown_step {B g : Nat} {a b c : World} (h : b.grownBy c (some g)) (hk : Below B a b) (hg : B ≤ g) (hB : B ≤ b.heap.size) : Below B a c := hk.trans (below_of_grown h hg hB)
end Go.Proofs.YtbhmbmfhbeocoaaDoor
