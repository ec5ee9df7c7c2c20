/- impl.ReadBox. Conditions: the listed variables are as the program's text lays them; the text is no longer than 1048577 bytes. -/
import Derived.Test.YtbhmbmfhbeocoaaDoorBxRead
import Derived.Test.YtbhmbmfhbeocoaaDoorLwBx1
namespace Go.Proofs.YtbhmbmfhbeocoaaDoor
open Go.RowKit
set_option linter.unusedVariables false

def ReadPost (w : World) (l : List UInt8) (e : Ending) (w' : World) : Prop :=
  e = .returned (.tuple #[.agg #[.int .i64 (readB l).1.id, .int .i64 (readB l).1.wt, .int .i64 (readB l).1.cl, .int .i64 (readB l).1.po, .bool (readB l).1.co], .bool (readB l).2]) ∧ Below w.heap.size w w'
/-- block g holds five cells of a box -/
def BxVar (w : World) (g : Nat) (x : Bx) : Prop := w.heap[g]? = some (.cells #[.int .i64 x.id, .int .i64 x.wt, .int .i64 x.cl, .int .i64 x.po, .bool x.co] 25 (0, 0))
theorem BxVar.lt {w : World} {g : Nat} {x : Bx} (h : BxVar w g x) : g < w.heap.size := (Array.getElem?_eq_some_iff.1 h).1
theorem BxVar.below {w w' : World} {g : Nat} {x : Bx} (h : BxVar w g x) (hb : Below w.heap.size w w') : BxVar w' g x := (hb.block g h.lt).trans h
theorem BxVar.cells {w : World} {g : Nat} {x : Bx} (h : BxVar w g x) :
    (w.cell? ⟨g, 0, none⟩ = some (.int .i64 x.id) ∧ w.cell? ⟨g, 1, none⟩ = some (.int .i64 x.wt) ∧ w.cell? ⟨g, 2, none⟩ = some (.int .i64 x.cl) ∧ w.cell? ⟨g, 3, none⟩ = some (.int .i64 x.po) ∧ w.cell? ⟨g, 4, none⟩ = some (.bool x.co)) ∧
    (w.frozen? ⟨g, 0, none⟩ = false ∧ w.frozen? ⟨g, 1, none⟩ = false ∧ w.frozen? ⟨g, 2, none⟩ = false ∧ w.frozen? ⟨g, 3, none⟩ = false ∧ w.frozen? ⟨g, 4, none⟩ = false) := by
  refine ⟨⟨?_, ?_, ?_, ?_, ?_⟩, ?_, ?_, ?_, ?_, ?_⟩ <;> simp only [World.cell?, World.frozen?, show w.heap[g]? = _ from h] <;> rfl
theorem BxVar.new (w : World) : BxVar (w.alloc (.cells #[.int .i64 0, .int .i64 0, .int .i64 0, .int .i64 0, .bool false] 25)) w.heap.size zeroB := by
  unfold BxVar
  exact heap_alloc_new w _


theorem fieldsL_words (s : ByteArray) : (wordsB s).map (fun x => x.data.toList) = fieldsL s.data.toList := rfl
theorem words_size (s : ByteArray) (j : Nat) (h : j < (wordsB s).length) : (wordsB s)[j].size ≤ s.size := by
  have : ∀ x ∈ wordsB s, x.size ≤ s.size := by
    intro x hx
    rw [wordsB, Lib.goFieldsP, List.mem_map] at hx
    obtain ⟨p, _, rfl⟩ := hx
    rw [ByteArray.size_extract]
    omega
  exact this _ (List.getElem_mem h)

set_option maxHeartbeats 6400000 in
set_option maxRecDepth 20000 in
theorem implReadBox_any (s : ByteArray) (hs : s.size ≤ 1048577) (w : World) (hT : Tabs w) :
    Calls Tryd.prog 11 #[.string s] w (ReadPost w s.data.toList) := by
  have hs' : s.size ≤ 2000000 := by omega
  obtain ⟨r, hr⟩ : ∃ r : ByteArray, (⟨(stripC s.data.toList).toArray⟩ : ByteArray) = r := ⟨_, rfl⟩
  have hrl : r.data.toList = stripC s.data.toList := by rw [← hr]
  have hrs : r.size ≤ 2000000 := by
    have h1 : r.size = r.data.toList.length := by rw [Array.length_toList]; rfl
    have h2 : (stripC s.data.toList).length ≤ s.data.toList.length := by
      unfold stripC
      split
      · simp
      · exact Nat.le_refl _
    have h3 : s.data.toList.length = s.size := by rw [Array.length_toList]; rfl
    rw [h1, hrl]
    omega
  have hcut : ∀ W, Calls Tryd.prog 22 #[.string s, .string ⟨#[99]⟩] W fun e w' => e = .returned (.tuple #[.string r, .bool (endC s.data.toList)]) ∧ W = w' := fun W => by
    rw [← hr]
    exact cut_any s hs' W
  have hflds : ∀ W, Calls Tryd.prog 23 #[.string r, .func (.func 24) #[] #[]] W fun e w' => ∃ A, e = .returned (.slice (some ⟨A, 0, none⟩) (wordsB r).length (wordsB r).length) ∧ A < w'.heap.size ∧
      (∀ j (h : j < (wordsB r).length), w'.cell? ⟨A, j, none⟩ = some (.string (wordsB r)[j])) ∧ Below W.heap.size W w' := fun W => fields_any r hrs W
  have hwf := fieldsL_words r
  rw [hrl, ← trim_stripC] at hwf
  have hread := look_impl s.data.toList
  obtain ⟨c, hc⟩ : ∃ c, endC s.data.toList = c := ⟨_, rfl⟩
  have hcs := suffix_endC s.data.toList
  rw [hc] at hcut hcs
  obtain ⟨ws, hws⟩ : ∃ ws, wordsB r = ws := ⟨_, rfl⟩
  have hwz := words_size r
  rw [hws] at hflds hwf hwz
  have Hcut := Lib.hid hcut
  have Hflds := Lib.hid hflds
  have HT := Lib.hid hT
  clear hcut hflds hT hr hrl hc hws hs'
  by_cases h4 : ws.length = 4
  · obtain ⟨s0, s1, s2, s3, rfl⟩ : ∃ s0 s1 s2 s3, ws = [s0, s1, s2, s3] := by
      match ws, h4 with
      | [a, b, c, d], _ => exact ⟨a, b, c, d, rfl⟩
    obtain ⟨n0, hn0⟩ : ∃ n, atV s0.data.toList = n := ⟨_, rfl⟩
    obtain ⟨n1, hn1⟩ : ∃ n, atV s1.data.toList = n := ⟨_, rfl⟩
    obtain ⟨n2, hn2⟩ : ∃ n, atV s2.data.toList = n := ⟨_, rfl⟩
    obtain ⟨n3, hn3⟩ : ∃ n, atV s3.data.toList = n := ⟨_, rfl⟩
    have z0 : s0.size ≤ 2000000 := by have := hwz 0 (by simp); simp at this; omega
    have z1 : s1.size ≤ 2000000 := by have := hwz 1 (by simp); simp at this; omega
    have z2 : s2.size ≤ 2000000 := by have := hwz 2 (by simp); simp at this; omega
    have z3 : s3.size ≤ 2000000 := by have := hwz 3 (by simp); simp at this; omega
    have hpar : implParse s.data.toList = some ⟨n0, n1, n2, n3, c⟩ := by
      rw [implParse, ← hwf, hcs, ← hn0, ← hn1, ← hn2, ← hn3]
      rfl
    rw [hpar] at hread
    have a0 : ∀ W, Errs W → Calls Tryd.prog 25 #[.string s0] W fun e w' => ∃ ev, e = .returned (.tuple #[.int .i64 n0, ev]) ∧ Below W.heap.size W w' := fun W hW => by rw [← hn0]; exact atoi_any s0 z0 W hW
    have a1 : ∀ W, Errs W → Calls Tryd.prog 25 #[.string s1] W fun e w' => ∃ ev, e = .returned (.tuple #[.int .i64 n1, ev]) ∧ Below W.heap.size W w' := fun W hW => by rw [← hn1]; exact atoi_any s1 z1 W hW
    have a2 : ∀ W, Errs W → Calls Tryd.prog 25 #[.string s2] W fun e w' => ∃ ev, e = .returned (.tuple #[.int .i64 n2, ev]) ∧ Below W.heap.size W w' := fun W hW => by rw [← hn2]; exact atoi_any s2 z2 W hW
    have a3 : ∀ W, Errs W → Calls Tryd.prog 25 #[.string s3] W fun e w' => ∃ ev, e = .returned (.tuple #[.int .i64 n3, ev]) ∧ Below W.heap.size W w' := fun W hW => by rw [← hn3]; exact atoi_any s3 z3 W hW
    have A0 := Lib.hid a0
    have A1 := Lib.hid a1
    have A2 := Lib.hid a2
    have A3 := Lib.hid a3
    have Hread := Lib.hid hread
    clear hpar hread hwf hwz hrs hs h4 hcs a0 a1 a2 a3 hn0 hn1 hn2 hn3 z0 z1 z2 z3
    go_enter Tryd.func11, Tryd.ntmps11
    go_wp2_with (first
      | (go_at_call 22; refine (Hcut.out _).mono ?_; rintro e w' ⟨rfl, rfl⟩)
      | (go_at_call 23; refine (Hflds.out _).mono ?_; rintro e w1 ⟨A, rfl, hA, hcell, hb1⟩
         have hv := (BxVar.new w).below hb1
         have c0 := hcell 0 (by simp); have c1 := hcell 1 (by simp); have c2 := hcell 2 (by simp); have c3 := hcell 3 (by simp)
         simp only [List.getElem_cons_zero, List.getElem_cons_succ] at c0 c1 c2 c3
         have hb2 : Below w.heap.size w w1 := (by repeat' (first | with_reducible exact Below.refl _ _ | with_reducible assumption | with_reducible refine bel_step (by with_reducible assumption) ?_ ?_ | with_reducible refine Below.drew ?_ | with_reducible refine below_drewN ?_ _ | with_reducible refine Below.alloc ?_ ?_ _ | with_reducible refine Below.setCell ?_ ?_ _ | (simp; done) | (simp; omega) | omega | with_reducible refine below_le (by with_reducible assumption) ?_))
         clear hb1 hcell))
    have hT1 := tabs_below HT.out hb2
    have Hv := Lib.hid hv
    have HT1 := Lib.hid hT1
    have hg0 : (w1.alloc (.cells #[.int .i64 0, .int .i64 0, .int .i64 0, .int .i64 0] 46)).heap[w1.heap.size]? = some (.cells #[.int .i64 0, .int .i64 0, .int .i64 0, .int .i64 0] 46 (0, 0)) := heap_alloc_new w1 _
    have hb0 : Below w1.heap.size w1 (w1.alloc (.cells #[.int .i64 0, .int .i64 0, .int .i64 0, .int .i64 0] 46)) := (Below.refl _ _).alloc (Nat.le_refl _) _
    have Hg0 := Lib.hid hg0
    have Hb0 := Lib.hid hb0
    have Hb2 := Lib.hid hb2
    clear hv hT1 hg0 hb0 hb2
    go_loopw [24] (fun i wr => ∃ (k : Nat) (x0 x1 x2 x3 : Int), k ≤ 4 ∧ i = .int .i64 k ∧ wr.heap[w1.heap.size]? = some (.cells #[.int .i64 x0, .int .i64 x1, .int .i64 x2, .int .i64 x3] 46 (0, 0)) ∧ (0 < k → x0 = n0) ∧ (1 < k → x1 = n1) ∧ (2 < k → x2 = n2) ∧ (3 < k → x3 = n3) ∧ Below w1.heap.size w1 wr) (fun i _ => 4 - (intOf i).toNat)
    case atStart => exact ⟨0, 0, 0, 0, 0, by omega, rfl, Hg0.out, (fun h => absurd h (by omega)), (fun h => absurd h (by omega)), (fun h => absurd h (by omega)), (fun h => absurd h (by omega)), Hb0.out⟩
    case round =>
      obtain ⟨k, x0, x1, x2, x3, hk, rfl, hg, e0, e1, e2, e3, hbr⟩ := hrel
      have hsr := hbr.size
      have hgl : w1.heap.size < wr.heap.size := (Array.getElem?_eq_some_iff.1 hg).1
      have hTr := (tabs_below HT1.out hbr)
      have HTr := Lib.hid hTr
      have Hg := Lib.hid hg
      clear hTr hg
      rcases (show k = 0 ∨ k = 1 ∨ k = 2 ∨ k = 3 ∨ k = 4 by omega) with rfl | rfl | rfl | rfl | rfl
      · have d0 := (hbr.cell (p := ⟨A, 0, none⟩) hA).trans c0
        clear e0 e1 e2 e3 hk
        go_wp2_with (first
          | (go_at_call 25; refine (A0.out _ HTr.out.2).mono ?_; rintro e w3 ⟨ev, rfl, hb3⟩
             have h3 := (hb3.block _ hgl).trans Hg.out
             have k0 : w3.cell? ⟨w1.heap.size, 0, none⟩ = some (.int .i64 x0) := by simp only [World.cell?, h3]; rfl
             have k1 : w3.frozen? ⟨w1.heap.size, 0, none⟩ = false := by simp only [World.frozen?, h3]; rfl
             have hb4 : Below w1.heap.size w1 (w3.setCell ⟨w1.heap.size, 0, none⟩ (.int .i64 n0)) := (hbr.trans (hb3.mono hsr)).setCell (Nat.le_refl _) _
             have h4 : (w3.setCell ⟨w1.heap.size, 0, none⟩ (.int .i64 n0)).heap[w1.heap.size]? = some (.cells #[.int .i64 n0, .int .i64 x1, .int .i64 x2, .int .i64 x3] 46 (0, 0)) := by simp [World.setCell, Array.getElem?_modify, h3]
             clear hb3 h3))
        exact ⟨⟨1, _, _, _, _, by omega, by go_num, h4, (fun _ => rfl), (fun h => absurd h (by omega)), (fun h => absurd h (by omega)), (fun h => absurd h (by omega)), hb4⟩, by simp [intOf]⟩
      · have d1 := (hbr.cell (p := ⟨A, 1, none⟩) hA).trans c1
        obtain rfl := e0 (by omega)
        clear e1 e2 e3 hk
        go_wp2_with (first
          | (go_at_call 25; refine (A1.out _ HTr.out.2).mono ?_; rintro e w3 ⟨ev, rfl, hb3⟩
             have h3 := (hb3.block _ hgl).trans Hg.out
             have k0 : w3.cell? ⟨w1.heap.size, 1, none⟩ = some (.int .i64 x1) := by simp only [World.cell?, h3]; rfl
             have k1 : w3.frozen? ⟨w1.heap.size, 1, none⟩ = false := by simp only [World.frozen?, h3]; rfl
             have hb4 : Below w1.heap.size w1 (w3.setCell ⟨w1.heap.size, 1, none⟩ (.int .i64 n1)) := (hbr.trans (hb3.mono hsr)).setCell (Nat.le_refl _) _
             have h4 : (w3.setCell ⟨w1.heap.size, 1, none⟩ (.int .i64 n1)).heap[w1.heap.size]? = some (.cells #[.int .i64 x0, .int .i64 n1, .int .i64 x2, .int .i64 x3] 46 (0, 0)) := by simp [World.setCell, Array.getElem?_modify, h3]
             clear hb3 h3))
        exact ⟨⟨2, _, _, _, _, by omega, by go_num, h4, (fun _ => rfl), (fun _ => rfl), (fun h => absurd h (by omega)), (fun h => absurd h (by omega)), hb4⟩, by simp [intOf]⟩
      · have d2 := (hbr.cell (p := ⟨A, 2, none⟩) hA).trans c2
        obtain rfl := e0 (by omega)
        obtain rfl := e1 (by omega)
        clear e2 e3 hk
        go_wp2_with (first
          | (go_at_call 25; refine (A2.out _ HTr.out.2).mono ?_; rintro e w3 ⟨ev, rfl, hb3⟩
             have h3 := (hb3.block _ hgl).trans Hg.out
             have k0 : w3.cell? ⟨w1.heap.size, 2, none⟩ = some (.int .i64 x2) := by simp only [World.cell?, h3]; rfl
             have k1 : w3.frozen? ⟨w1.heap.size, 2, none⟩ = false := by simp only [World.frozen?, h3]; rfl
             have hb4 : Below w1.heap.size w1 (w3.setCell ⟨w1.heap.size, 2, none⟩ (.int .i64 n2)) := (hbr.trans (hb3.mono hsr)).setCell (Nat.le_refl _) _
             have h4 : (w3.setCell ⟨w1.heap.size, 2, none⟩ (.int .i64 n2)).heap[w1.heap.size]? = some (.cells #[.int .i64 x0, .int .i64 x1, .int .i64 n2, .int .i64 x3] 46 (0, 0)) := by simp [World.setCell, Array.getElem?_modify, h3]
             clear hb3 h3))
        exact ⟨⟨3, _, _, _, _, by omega, by go_num, h4, (fun _ => rfl), (fun _ => rfl), (fun _ => rfl), (fun h => absurd h (by omega)), hb4⟩, by simp [intOf]⟩
      · have d3 := (hbr.cell (p := ⟨A, 3, none⟩) hA).trans c3
        obtain rfl := e0 (by omega)
        obtain rfl := e1 (by omega)
        obtain rfl := e2 (by omega)
        clear e3 hk
        go_wp2_with (first
          | (go_at_call 25; refine (A3.out _ HTr.out.2).mono ?_; rintro e w3 ⟨ev, rfl, hb3⟩
             have h3 := (hb3.block _ hgl).trans Hg.out
             have k0 : w3.cell? ⟨w1.heap.size, 3, none⟩ = some (.int .i64 x3) := by simp only [World.cell?, h3]; rfl
             have k1 : w3.frozen? ⟨w1.heap.size, 3, none⟩ = false := by simp only [World.frozen?, h3]; rfl
             have hb4 : Below w1.heap.size w1 (w3.setCell ⟨w1.heap.size, 3, none⟩ (.int .i64 n3)) := (hbr.trans (hb3.mono hsr)).setCell (Nat.le_refl _) _
             have h4 : (w3.setCell ⟨w1.heap.size, 3, none⟩ (.int .i64 n3)).heap[w1.heap.size]? = some (.cells #[.int .i64 x0, .int .i64 x1, .int .i64 x2, .int .i64 n3] 46 (0, 0)) := by simp [World.setCell, Array.getElem?_modify, h3]
             clear hb3 h3))
        exact ⟨⟨4, _, _, _, _, by omega, by go_num, h4, (fun _ => rfl), (fun _ => rfl), (fun _ => rfl), (fun _ => rfl), hb4⟩, by simp [intOf]⟩
      · obtain rfl := e0 (by omega)
        obtain rfl := e1 (by omega)
        obtain rfl := e2 (by omega)
        obtain rfl := e3 (by omega)
        have hv := Hv.out.below hbr
        have hg := Hg.out
        have g0 : wr.cell? ⟨w1.heap.size, 0, none⟩ = some (.int .i64 x0) := by simp only [World.cell?, hg]; rfl
        have g1 : wr.cell? ⟨w1.heap.size, 1, none⟩ = some (.int .i64 x1) := by simp only [World.cell?, hg]; rfl
        have g2 : wr.cell? ⟨w1.heap.size, 2, none⟩ = some (.int .i64 x2) := by simp only [World.cell?, hg]; rfl
        have g3 : wr.cell? ⟨w1.heap.size, 3, none⟩ = some (.int .i64 x3) := by simp only [World.cell?, hg]; rfl
        have hbw := Hb2.out.trans (hbr.mono Hb2.out.size)
        have hsw := hbw.size
        have Hbw := Lib.hid hbw
        have Hvr := Lib.hid hv
        clear hg hv hbw hk c0 c1 c2 c3 hbr
        go_wp2_with (fail)
        have hb5 : Below wr.heap.size wr (wr.alloc (.cells #[.int .i64 x0, .int .i64 x1, .int .i64 x2, .int .i64 x3, .bool c] 25)) := (Below.refl _ _).alloc (Nat.le_refl _) _
        have hx5 : BxVar (wr.alloc (.cells #[.int .i64 x0, .int .i64 x1, .int .i64 x2, .int .i64 x3, .bool c] 25)) wr.heap.size ⟨x0, x1, x2, x3, c⟩ := by
          unfold BxVar
          exact heap_alloc_new wr _
        obtain ⟨T, hT⟩ : ∃ T, boxT ⟨x0, x1, x2, x3, c⟩ = T := ⟨_, rfl⟩
        have hlook : readB s.data.toList = if T = s then (⟨x0, x1, x2, x3, c⟩, true) else (zeroB, false) := by
          rw [← Hread.out, lookB, ← hT]
          have hiff : boxL ⟨x0, x1, x2, x3, c⟩ = s.data.toList ↔ boxT ⟨x0, x1, x2, x3, c⟩ = s := by
            rw [← boxT_list]
            constructor
            · intro h
              apply ByteArray.ext
              apply Array.ext'
              exact h
            · intro h
              rw [h]
          simp only [hiff]
        have Hlook := Lib.hid hlook
        clear hlook Hread
        refine (implBoxText_any _ _ _ _ _ _ (tab_below HTr.out.1 hb5)).mono ?_
        rintro e w5 ⟨rfl, hb6⟩
        rw [hT]
        have hv5 := (Hvr.out.below hb5).below hb6
        have hx6 := hx5.below hb6
        have hb7 := Hbw.out.trans ((hb5.trans (hb6.mono hb5.size)).mono hsw)
        obtain ⟨⟨q0, q1, q2, q3, q4⟩, f0, f1, f2, f3, f4⟩ := hv5.cells
        obtain ⟨⟨r0, r1, r2, r3, r4⟩, _⟩ := hx6.cells
        simp only at r0 r1 r2 r3 r4
        clear hv5 hx6 hb5 hb6 hx5 hT g0 g1 g2 g3 hgl hsr
        by_cases hq : T = s
        · subst hq
          have hl := Hlook.out
          rw [if_pos rfl] at hl
          have Hl := Lib.hid hl
          clear hl
          go_wp2_with (fail)
          refine bodyPost_ret (v := .tuple #[.agg #[.int .i64 x0, .int .i64 x1, .int .i64 x2, .int .i64 x3, .bool c], .bool true]) ?_ rfl ⟨by rw [Hl.out] <;> rfl, (by repeat' (first | with_reducible exact Below.refl _ _ | with_reducible assumption | with_reducible refine bel_step (by with_reducible assumption) ?_ ?_ | with_reducible refine Below.drew ?_ | with_reducible refine below_drewN ?_ _ | with_reducible refine Below.alloc ?_ ?_ _ | with_reducible refine Below.setCell ?_ ?_ _ | (simp; done) | (simp; omega) | omega | with_reducible refine below_le (by with_reducible assumption) ?_))⟩
          simp [results, Tryd.results11, go_sem, q0, q1, q2, q3, q4, zeroB]
        · have hl := Hlook.out
          rw [if_neg hq] at hl
          have Hl := Lib.hid hl
          have hne : (T.toList == s.toList) = false := by rw [str_beq', decide_eq_false hq]
          clear hl hq
          go_wp2_with (fail)
          refine bodyPost_ret (v := .tuple #[.agg #[.int .i64 0, .int .i64 0, .int .i64 0, .int .i64 0, .bool false], .bool false]) ?_ rfl ⟨by rw [Hl.out] <;> rfl, (by repeat' (first | with_reducible exact Below.refl _ _ | with_reducible assumption | with_reducible refine bel_step (by with_reducible assumption) ?_ ?_ | with_reducible refine Below.drew ?_ | with_reducible refine below_drewN ?_ _ | with_reducible refine Below.alloc ?_ ?_ _ | with_reducible refine Below.setCell ?_ ?_ _ | (simp; done) | (simp; omega) | omega | with_reducible refine below_le (by with_reducible assumption) ?_))⟩
          simp [results, Tryd.results11, go_sem, q0, q1, q2, q3, q4, zeroB]
  · have hnone : implParse s.data.toList = none := by
      rw [implParse, ← hwf]
      split
      · rename_i a b c d e
        have := congrArg List.length e
        simp at this
        omega
      · rfl
    rw [hnone] at hread
    have hr1 : readB s.data.toList = (zeroB, false) := hread.symm
    have h4' : ¬ (ws.length : Int) = 4 := by omega
    unfold ReadPost
    rw [hr1]
    clear hread hnone hr1 hwf hwz h4
    go_enter Tryd.func11, Tryd.ntmps11
    go_wp2_with (first
      | (go_at_call 22; refine (Hcut.out _).mono ?_; rintro e w' ⟨rfl, rfl⟩)
      | (go_at_call 23; refine (Hflds.out _).mono ?_; rintro e w1 ⟨A, rfl, hA, hcell, hb1⟩
         have hv := (BxVar.new w).below hb1
         obtain ⟨⟨q0, q1, q2, q3, q4⟩, f0, f1, f2, f3, f4⟩ := hv.cells
         have hb2 : Below w.heap.size w w1 := (by repeat' (first | with_reducible exact Below.refl _ _ | with_reducible assumption | with_reducible refine bel_step (by with_reducible assumption) ?_ ?_ | with_reducible refine Below.drew ?_ | with_reducible refine below_drewN ?_ _ | with_reducible refine Below.alloc ?_ ?_ _ | with_reducible refine Below.setCell ?_ ?_ _ | (simp; done) | (simp; omega) | omega | with_reducible refine below_le (by with_reducible assumption) ?_))
         clear hb1 hcell hv))
    refine bodyPost_ret (v := .tuple #[.agg #[.int .i64 0, .int .i64 0, .int .i64 0, .int .i64 0, .bool false], .bool false]) ?_ rfl ⟨rfl, (by repeat' (first | with_reducible exact Below.refl _ _ | with_reducible assumption | with_reducible refine bel_step (by with_reducible assumption) ?_ ?_ | with_reducible refine Below.drew ?_ | with_reducible refine below_drewN ?_ _ | with_reducible refine Below.alloc ?_ ?_ _ | with_reducible refine Below.setCell ?_ ?_ _ | (simp; done) | (simp; omega) | omega | with_reducible refine below_le (by with_reducible assumption) ?_))⟩
    simp [results, Tryd.results11, go_sem, q0, q1, q2, q3, q4, zeroB]
end Go.Proofs.YtbhmbmfhbeocoaaDoor
