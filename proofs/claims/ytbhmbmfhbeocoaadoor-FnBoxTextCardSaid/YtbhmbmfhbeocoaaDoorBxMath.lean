/- Texts of boxes, how they are cut and read: the plain law. No condition, no program. -/
import Derived.Test.YtbhmbmfhbeocoaaDoorBox
import Derived.Test.YtbhmbmfhbeocoaaDoorStructs
import Derived.Lib.ItoaNum
import Derived.Lib.FieldsP
import Derived.Lib.AtoiAll
import Derived.Lib.Strings
import Derived.Lib.Atoi
import Derived.Laws.RangeString
namespace Go.Proofs.YtbhmbmfhbeocoaaDoor
open Go.RowKit
set_option linter.unusedVariables false

/-! ### Numerals -/
theorem snoc_dec : ∀ (l : List UInt8) (acc : Nat) (b : UInt8) (n d : Nat), Lib.decFrom acc l = some n → Lib.digitVal b = some d → Lib.decFrom acc (l ++ [b]) = some (n * 10 + d)
  | [], acc, b, n, d, h, hd => by
    simp only [Lib.decFrom, Option.some.injEq] at h
    subst h
    simp [Lib.decFrom, hd]
  | a :: l, acc, b, n, d, h, hd => by
    simp only [List.cons_append, Lib.decFrom] at h ⊢
    cases ha : Lib.digitVal a with
    | none => rw [ha] at h; cases h
    | some x =>
      rw [ha] at h
      exact snoc_dec l _ b n d h hd
theorem dig_val (k : Nat) (h : k < 10) : (UInt8.ofNat (48 + k)).toNat = 48 + k := by
  simp [UInt8.toNat_ofNat']
  omega
theorem dig_all (n : Nat) : ∀ b ∈ Lib.decDigits n, 48 ≤ b.toNat ∧ b.toNat ≤ 57 := by
  induction n using Nat.strongRecOn with
  | _ n ih =>
    intro b hb
    by_cases h : n < 10
    · rw [Lib.decDigits, dif_pos h] at hb
      simp only [List.mem_singleton] at hb
      rw [hb, dig_val n h]
      omega
    · rw [Lib.decDigits, dif_neg h, List.mem_append] at hb
      rcases hb with hb | hb
      · exact ih (n / 10) (by omega) b hb
      · simp only [List.mem_singleton] at hb
        rw [hb, dig_val (n % 10) (by omega)]
        omega
theorem dec_back (n : Nat) : Lib.decFrom 0 (Lib.decDigits n) = some n := by
  induction n using Nat.strongRecOn with
  | _ n ih =>
    by_cases h : n < 10
    · rw [Lib.decDigits, dif_pos h]
      simp only [Lib.decFrom, Lib.digitVal, dig_val n h]
      rw [if_pos (by omega)]
      simp
    · rw [Lib.decDigits, dif_neg h, snoc_dec _ 0 _ _ (n % 10) (ih (n / 10) (by omega)) (by rw [Lib.digitVal, dig_val _ (by omega), if_pos (by omega)]; simp)]
      congr 1
      omega
theorem dec_ne (n : Nat) : Lib.decDigits n ≠ [] := by
  rw [Lib.decDigits]
  split <;> simp
theorem dec_len (n : Nat) (h : n ≤ 999) : 1 ≤ (Lib.decDigits n).length ∧ (Lib.decDigits n).length ≤ 3 := by
  rw [Lib.decDigits_length]
  refine ⟨Lib.nDigits_pos n, ?_⟩
  by_cases h1 : n < 10
  · rw [Lib.nDigits_small h1]; omega
  · rw [Lib.nDigits_big h1]
    by_cases h2 : n / 10 < 10
    · rw [Lib.nDigits_small h2]; omega
    · rw [Lib.nDigits_big h2, Lib.nDigits_small (by omega)]; omega
theorem dec_head (n : Nat) (h : 1 ≤ n) : (Lib.decDigits n).head? ≠ some 48 := by
  induction n using Nat.strongRecOn with
  | _ n ih =>
    by_cases h1 : n < 10
    · rw [Lib.decDigits, dif_pos h1]
      simp only [List.head?_cons]
      intro e
      have := congrArg UInt8.toNat (Option.some.inj e)
      rw [dig_val n h1] at this
      have e2 : (48 : UInt8).toNat = 48 := rfl
      omega
    · have hi := ih (n / 10) (by omega) (by omega)
      rw [Lib.decDigits, dif_neg h1]
      cases he : Lib.decDigits (n / 10) with
      | nil => exact absurd he (dec_ne _)
      | cons c r =>
        rw [he] at hi
        simpa using hi
theorem dec_lead1 (n : Nat) (h : 1 < (Lib.decDigits n).length) : (Lib.decDigits n).head? ≠ some 48 := by
  refine dec_head n ?_
  rcases Nat.eq_zero_or_pos n with h0 | h0
  · rw [h0, Lib.decDigits, dif_pos (by omega)] at h
    simp at h
  · exact h0

def decV : Option Nat → Int
  | some n => (n : Int)
  | none => -1
/-- what l1Read gives -/
def rdV (l : List UInt8) : Int := if (1 ≤ l.length ∧ l.length ≤ 3) ∧ ¬ (1 < l.length ∧ l.head? = some 48) then decV (Lib.decFrom 0 l) else -1
theorem rdV_dec {n : Nat} (h : n ≤ 999) : rdV (Lib.decDigits n) = n := by
  rw [rdV, if_pos ⟨dec_len n h, fun h' => dec_lead1 n h'.1 h'.2⟩, dec_back, decV]
/-- the number that Atoi gives -/
def atV (l : List UInt8) : Int := match Lib.atoiAll l with | .ok v => v | .range => Lib.atoiSat l | _ => 0
theorem decFrom_ge : ∀ (l : List UInt8) (acc n : Nat), Lib.decFrom acc l = some n → acc ≤ n
  | [], acc, n, h => by simp only [Lib.decFrom, Option.some.injEq] at h; omega
  | b :: l, acc, n, h => by
    simp only [Lib.decFrom] at h
    cases hb : Lib.digitVal b with
    | none => rw [hb] at h; cases h
    | some d =>
      rw [hb] at h
      have := decFrom_ge l _ n h
      omega
theorem parse_dec : ∀ (l : List UInt8) (acc n : Nat), Lib.decFrom acc l = some n → n < 1000000000000000000 → Lib.parseUint10 acc l = .ok n
  | [], acc, n, h, hn => by
    simp only [Lib.decFrom, Option.some.injEq] at h
    rw [h, Lib.parseUint10]
  | b :: l, acc, n, h, hn => by
    simp only [Lib.decFrom] at h
    cases hb : Lib.digitVal b with
    | none => rw [hb] at h; cases h
    | some d =>
      rw [hb] at h
      have hge := decFrom_ge l _ n h
      have hd : 48 ≤ b.toNat ∧ b.toNat ≤ 57 ∧ d = b.toNat - 48 := by
        rw [Lib.digitVal] at hb
        split at hb
        · rename_i h1
          injection hb with hb
          omega
        · cases hb
      rw [hd.2.2] at h hge
      rw [Lib.parseUint10, if_pos ⟨hd.1, hd.2.1⟩, if_neg (by omega), if_neg (by omega)]
      exact parse_dec l _ n h hn
theorem atV_dec {n : Nat} (h : n ≤ 999) : atV (Lib.decDigits n) = n := by
  have hp := parse_dec (Lib.decDigits n) 0 n (dec_back n) (by omega)
  have ha := dig_all n
  cases hl : Lib.decDigits n with
  | nil => exact absurd hl (dec_ne n)
  | cons c r =>
    rw [hl] at hp ha
    have hc := ha c (by simp)
    have hm : Lib.atoiAll (c :: r) = .ok (n : Int) := by
      simp only [Lib.atoiAll]
      rw [if_neg (by omega), Lib.parseMag, if_neg (by simp), hp]
      simp only
      rw [if_neg (by omega), if_neg (by omega), if_neg (by omega)]
    rw [atV, hm]

/-! ### Texts of boxes -/
def coL (co : Bool) : List UInt8 := if co then [99] else []
def coreL (x : Bx) : List UInt8 := Lib.decDigits x.id.toNat ++ 58 :: (Lib.decDigits x.wt.toNat ++ 47 :: (Lib.decDigits x.cl.toNat ++ 47 :: Lib.decDigits x.po.toNat))
def bxB (x : Bx) : Bool := boxB x.id x.wt x.cl x.po
def boxL (x : Bx) : List UInt8 := if bxB x then coreL x ++ coL x.co else []
theorem bxB_iff {x : Bx} : bxB x = true ↔ (1 ≤ x.id ∧ x.id ≤ 999) ∧ (1 ≤ x.wt ∧ x.wt ≤ 30) ∧ (0 ≤ x.cl ∧ x.cl ≤ 3) ∧ (0 ≤ x.po ∧ x.po ≤ 6) := by
  simp only [bxB, boxB, Bool.and_eq_true, inR_iff, and_assoc]
theorem coreL_ne (x : Bx) : coreL x ≠ [] := by simp [coreL]
theorem boxL_nil {x : Bx} : boxL x = [] ↔ bxB x = false := by
  cases h : bxB x <;> simp [boxL, h, coreL_ne]
theorem coreL_last (x : Bx) : ∃ l b, coreL x = l ++ [b] ∧ 48 ≤ b.toNat ∧ b.toNat ≤ 57 := by
  have h1 := dec_ne x.po.toNat
  have h2 := dig_all x.po.toNat
  obtain ⟨l, b, e⟩ : ∃ l b, Lib.decDigits x.po.toNat = l ++ [b] := ⟨_, _, (List.dropLast_concat_getLast h1).symm⟩
  rw [e] at h2
  refine ⟨Lib.decDigits x.id.toNat ++ 58 :: (Lib.decDigits x.wt.toNat ++ 47 :: (Lib.decDigits x.cl.toNat ++ 47 :: l)), b, ?_, h2 b (by simp)⟩
  rw [coreL, e]
  simp

/-! ### The reference's reading -/
def cutGo (sep : UInt8) : List UInt8 → List UInt8 → List (List UInt8)
  | cur, [] => [cur]
  | cur, b :: l => if b = sep then cur :: cutGo sep [] l else cutGo sep (cur ++ [b]) l
def cutL (sep : UInt8) (l : List UInt8) : List (List UInt8) := cutGo sep [] l
theorem cutGo_run (sep : UInt8) : ∀ (a cur l : List UInt8), (∀ b ∈ a, b ≠ sep) → cutGo sep cur (a ++ l) = cutGo sep (cur ++ a) l
  | [], cur, l, _ => by simp
  | b :: a, cur, l, h => by
    rw [List.cons_append, cutGo, if_neg (h b (by simp)), cutGo_run sep a _ l (fun c hc => h c (by simp [hc])), List.append_assoc]
    rfl
theorem cutGo_sep (sep : UInt8) (cur l : List UInt8) : cutGo sep cur (sep :: l) = cur :: cutGo sep [] l := by rw [cutGo, if_pos rfl]
theorem dig_ne {n : Nat} {c : UInt8} (h : c.toNat < 48 ∨ 57 < c.toNat) : ∀ b ∈ Lib.decDigits n, b ≠ c := by
  intro b hb e
  have := dig_all n b hb
  rw [e] at this
  omega
theorem cut_core (x : Bx) : cutL 58 (coreL x) = [Lib.decDigits x.id.toNat, Lib.decDigits x.wt.toNat ++ 47 :: (Lib.decDigits x.cl.toNat ++ 47 :: Lib.decDigits x.po.toNat)] := by
  have d58 : ∀ n : Nat, ∀ b ∈ Lib.decDigits n, b ≠ 58 := fun n => dig_ne (by decide)
  have hr : ∀ b ∈ Lib.decDigits x.wt.toNat ++ 47 :: (Lib.decDigits x.cl.toNat ++ 47 :: Lib.decDigits x.po.toNat), b ≠ 58 := by
    intro b hb
    simp only [List.mem_append, List.mem_cons] at hb
    rcases hb with hb | rfl | hb | rfl | hb
    · exact d58 _ b hb
    · decide
    · exact d58 _ b hb
    · decide
    · exact d58 _ b hb
  have e := cutGo_run 58 _ [] [] hr
  rw [List.append_nil] at e
  rw [cutL, coreL, cutGo_run 58 _ _ _ (d58 _), cutGo_sep, e]
  simp [cutGo]
theorem cut_tail (a b c : Nat) : cutL 47 (Lib.decDigits a ++ 47 :: (Lib.decDigits b ++ 47 :: Lib.decDigits c)) = [Lib.decDigits a, Lib.decDigits b, Lib.decDigits c] := by
  have d47 : ∀ n : Nat, ∀ b ∈ Lib.decDigits n, b ≠ 47 := fun n => dig_ne (by decide)
  have e := cutGo_run 47 _ [] [] (d47 c)
  rw [List.append_nil] at e
  rw [cutL, cutGo_run 47 _ _ _ (d47 _), cutGo_sep, cutGo_run 47 _ _ _ (d47 _), cutGo_sep, e]
  simp [cutGo]
def endC (l : List UInt8) : Bool := l.getLast? == some 99
def stripC (l : List UInt8) : List UInt8 := if endC l then l.dropLast else l
/-- what the reference reads, ahead of its look back -/
def specParse (l : List UInt8) : Option Bx :=
  match cutL 58 (stripC l) with
  | [a, r] => (match cutL 47 r with
    | [b, c, d] => some ⟨rdV a, rdV b, rdV c, rdV d, endC l⟩
    | _ => none)
  | _ => none
theorem endC_box (x : Bx) : endC (coreL x ++ coL x.co) = x.co ∧ stripC (coreL x ++ coL x.co) = coreL x := by
  cases hc : x.co with
  | true => simp [endC, stripC, coL]
  | false =>
    obtain ⟨l, b, e, h1, h2⟩ := coreL_last x
    have hb : b ≠ 99 := by
      rintro rfl
      exact absurd h2 (by decide)
    simp [endC, stripC, coL, e, hb]
theorem spec_back {x : Bx} (h : bxB x = true) : specParse (boxL x) = some x := by
  obtain ⟨⟨a1, a2⟩, ⟨b1, b2⟩, ⟨c1, c2⟩, d1, d2⟩ := bxB_iff.1 h
  obtain ⟨e1, e2⟩ := endC_box x
  rw [specParse, boxL, if_pos h, e1, e2, cut_core]
  simp only [cut_tail]
  rw [rdV_dec (by omega), rdV_dec (by omega), rdV_dec (by omega), rdV_dec (by omega), Int.toNat_of_nonneg (by omega), Int.toNat_of_nonneg (by omega), Int.toNat_of_nonneg (by omega), Int.toNat_of_nonneg (by omega)]
theorem spec_nil : specParse [] = none := by
  simp [specParse, stripC, endC, cutL, cutGo]

/-! ### The program's reading -/
def sepP (r : Nat) : Bool := r == 58 || r == 47
def fieldsL (l : List UInt8) : List (List UInt8) := (Lib.goFieldsP sepP ⟨l.toArray⟩).map fun s => s.data.toList
theorem ascii_at {s : ByteArray} {pos : Nat} {b : UInt8} (hb : s.data.toList[pos]? = some b) (ha : b.toNat < 128) : pos < s.size ∧ Utf8.decode s pos = (b.toNat, 1) := by
  obtain ⟨hl, e⟩ := List.getElem?_eq_some_iff.1 hb
  have hlt : pos < s.size := by rw [Array.length_toList] at hl; exact hl
  have e2 : s[pos]'hlt = b := by rw [← e]; rfl
  refine ⟨hlt, ?_⟩
  rw [decode_ascii s pos hlt (by rw [e2]; exact ha), e2]
theorem span_step (p : Nat → Bool) (s : ByteArray) (f pos : Nat) (st : Option Nat) (acc : List (Nat × Nat)) {b : UInt8} (hb : s.data.toList[pos]? = some b) (ha : b.toNat < 128) :
    Lib.spansFromP p s (f + 1) pos st acc = if p b.toNat then (match st with | some a => Lib.spansFromP p s f (pos + 1) none (acc ++ [(a, pos)]) | none => Lib.spansFromP p s f (pos + 1) none acc) else (match st with | some a => Lib.spansFromP p s f (pos + 1) (some a) acc | none => Lib.spansFromP p s f (pos + 1) (some pos) acc) := by
  obtain ⟨hlt, hd⟩ := ascii_at hb ha
  rw [Lib.spansFromP.eq_def]
  simp only [hlt, if_true, hd]
  cases st <;> rfl
theorem mid_at (pre D rest : List UInt8) (j : Nat) (hj : j < D.length) : (pre ++ (D ++ rest))[pre.length + j]? = some (D[j]'hj) := by
  rw [List.getElem?_append_right (by omega), List.getElem?_append_left (by omega), show pre.length + j - pre.length = j by omega]
  exact List.getElem?_eq_getElem hj
theorem span_run (p : Nat → Bool) (s : ByteArray) (a : Nat) (acc : List (Nat × Nat)) : ∀ (D pre rest : List UInt8) (f : Nat), s.data.toList = pre ++ (D ++ rest) → (∀ b ∈ D, b.toNat < 128 ∧ p b.toNat = false) →
    Lib.spansFromP p s (f + D.length) pre.length (some a) acc = Lib.spansFromP p s f (pre.length + D.length) (some a) acc
  | [], pre, rest, f, _, _ => rfl
  | b :: D, pre, rest, f, hs, hD => by
    have h0 := mid_at pre (b :: D) rest 0 (by simp)
    rw [← hs] at h0
    have hb := hD b (by simp)
    rw [show f + (b :: D).length = (f + D.length) + 1 by simp; omega, span_step p s _ _ _ _ (by simpa using h0) hb.1, hb.2]
    simp only [Bool.false_eq_true, if_false]
    have := span_run p s a acc D (pre ++ [b]) rest f (by rw [hs]; simp) (fun c hc => hD c (by simp [hc]))
    simp only [List.length_append, List.length_cons, List.length_nil] at this ⊢
    rw [this]
    congr 1
    omega
theorem span_word (p : Nat → Bool) (s : ByteArray) (acc : List (Nat × Nat)) (D pre rest : List UInt8) (f : Nat) (hs : s.data.toList = pre ++ (D ++ rest)) (hD : ∀ b ∈ D, b.toNat < 128 ∧ p b.toNat = false) (hne : D ≠ []) :
    Lib.spansFromP p s (f + D.length) pre.length none acc = Lib.spansFromP p s f (pre.length + D.length) (some pre.length) acc := by
  cases D with
  | nil => exact absurd rfl hne
  | cons b D =>
    have h0 := mid_at pre (b :: D) rest 0 (by simp)
    rw [← hs] at h0
    have hb := hD b (by simp)
    rw [show f + (b :: D).length = (f + D.length) + 1 by simp; omega, span_step p s _ _ _ _ (by simpa using h0) hb.1, hb.2]
    simp only [Bool.false_eq_true, if_false]
    have := span_run p s pre.length acc D (pre ++ [b]) rest f (by rw [hs]; simp) (fun c hc => hD c (by simp [hc]))
    simp only [List.length_append, List.length_cons, List.length_nil] at this ⊢
    rw [this]
    congr 1
    omega
theorem span_sep (p : Nat → Bool) (s : ByteArray) (acc : List (Nat × Nat)) (c : UInt8) (pre rest : List UInt8) (f a : Nat) (hs : s.data.toList = pre ++ (c :: rest)) (hc : c.toNat < 128) (hp : p c.toNat = true) :
    Lib.spansFromP p s (f + 1) pre.length (some a) acc = Lib.spansFromP p s f (pre.length + 1) none (acc ++ [(a, pre.length)]) := by
  have h0 := mid_at pre [c] rest 0 (by simp)
  rw [show pre ++ ([c] ++ rest) = pre ++ (c :: rest) from rfl, ← hs] at h0
  rw [span_step p s _ _ _ _ (by simpa using h0) hc, hp]
  rfl
theorem piece_at (s : ByteArray) (pre D rest : List UInt8) (hs : s.data.toList = pre ++ (D ++ rest)) : (s.extract pre.length (pre.length + D.length)).data.toList = D := by
  rw [ByteArray.data_extract, Array.toList_extract, List.extract_eq_take_drop, hs, show pre.length + D.length - pre.length = D.length by omega, List.drop_left, List.take_left]
theorem fields_core (A W C P : List UInt8) (c1 c2 c3 : UInt8) (h1 : c1.toNat < 128 ∧ sepP c1.toNat = true) (h2 : c2.toNat < 128 ∧ sepP c2.toNat = true) (h3 : c3.toNat < 128 ∧ sepP c3.toNat = true)
    (hA : ∀ b ∈ A, b.toNat < 128 ∧ sepP b.toNat = false) (hW : ∀ b ∈ W, b.toNat < 128 ∧ sepP b.toNat = false) (hC : ∀ b ∈ C, b.toNat < 128 ∧ sepP b.toNat = false) (hP : ∀ b ∈ P, b.toNat < 128 ∧ sepP b.toNat = false)
    (nA : A ≠ []) (nW : W ≠ []) (nC : C ≠ []) (nP : P ≠ []) : fieldsL (A ++ c1 :: (W ++ c2 :: (C ++ c3 :: P))) = [A, W, C, P] := by
  obtain ⟨s, hs⟩ : ∃ s : ByteArray, (⟨(A ++ c1 :: (W ++ c2 :: (C ++ c3 :: P))).toArray⟩ : ByteArray) = s := ⟨_, rfl⟩
  have hl : s.data.toList = A ++ c1 :: (W ++ c2 :: (C ++ c3 :: P)) := by rw [← hs]
  have hsz : s.size = ((((((0 + P.length) + 1) + C.length) + 1) + W.length) + 1) + A.length := by
    have : s.size = s.data.toList.length := by rw [Array.length_toList]; rfl
    rw [this, hl]
    simp only [List.length_append, List.length_cons]
    omega
  rw [fieldsL, hs, Lib.goFieldsP, Lib.spansOfP, hsz]
  have r1 := span_word sepP s [] A [] (c1 :: (W ++ c2 :: (C ++ c3 :: P))) ((((((0 + P.length) + 1) + C.length) + 1) + W.length) + 1) (by rw [hl]; rfl) hA nA
  have r2 := span_sep sepP s [] c1 A (W ++ c2 :: (C ++ c3 :: P)) (((((0 + P.length) + 1) + C.length) + 1) + W.length) 0 hl h1.1 h1.2
  have hl2 : s.data.toList = (A ++ [c1]) ++ (W ++ c2 :: (C ++ c3 :: P)) := by rw [hl]; simp
  have r3 := span_word sepP s [(0, A.length)] W (A ++ [c1]) (c2 :: (C ++ c3 :: P)) ((((0 + P.length) + 1) + C.length) + 1) hl2 hW nW
  have hl3 : s.data.toList = (A ++ [c1] ++ W) ++ c2 :: (C ++ c3 :: P) := by rw [hl]; simp
  have r4 := span_sep sepP s [(0, A.length)] c2 (A ++ [c1] ++ W) (C ++ c3 :: P) (((0 + P.length) + 1) + C.length) (A ++ [c1]).length hl3 h2.1 h2.2
  have hl4 : s.data.toList = (A ++ [c1] ++ W ++ [c2]) ++ (C ++ c3 :: P) := by rw [hl]; simp
  have r5 := span_word sepP s [(0, A.length), ((A ++ [c1]).length, (A ++ [c1] ++ W).length)] C (A ++ [c1] ++ W ++ [c2]) (c3 :: P) ((0 + P.length) + 1) hl4 hC nC
  have hl5 : s.data.toList = (A ++ [c1] ++ W ++ [c2] ++ C) ++ c3 :: P := by rw [hl]; simp
  have r6 := span_sep sepP s [(0, A.length), ((A ++ [c1]).length, (A ++ [c1] ++ W).length)] c3 (A ++ [c1] ++ W ++ [c2] ++ C) P (0 + P.length) (A ++ [c1] ++ W ++ [c2]).length hl5 h3.1 h3.2
  have hl6 : s.data.toList = (A ++ [c1] ++ W ++ [c2] ++ C ++ [c3]) ++ (P ++ []) := by rw [hl]; simp
  have r7 := span_word sepP s [(0, A.length), ((A ++ [c1]).length, (A ++ [c1] ++ W).length), ((A ++ [c1] ++ W ++ [c2]).length, (A ++ [c1] ++ W ++ [c2] ++ C).length)] P (A ++ [c1] ++ W ++ [c2] ++ C ++ [c3]) [] 0 hl6 hP nP
  have p1 := piece_at s [] A (c1 :: (W ++ c2 :: (C ++ c3 :: P))) (by rw [hl]; rfl)
  have p2 := piece_at s (A ++ [c1]) W _ hl2
  have p3 := piece_at s (A ++ [c1] ++ W ++ [c2]) C _ hl4
  have p4 := piece_at s (A ++ [c1] ++ W ++ [c2] ++ C ++ [c3]) P _ hl6
  have l1 : (A ++ [c1]).length = A.length + 1 := by simp
  have l2 : (A ++ [c1] ++ W).length = A.length + 1 + W.length := by simp only [List.length_append, List.length_cons, List.length_nil]
  have l3 : (A ++ [c1] ++ W ++ [c2]).length = A.length + 1 + W.length + 1 := by simp only [List.length_append, List.length_cons, List.length_nil]
  have l4 : (A ++ [c1] ++ W ++ [c2] ++ C).length = A.length + 1 + W.length + 1 + C.length := by simp only [List.length_append, List.length_cons, List.length_nil]
  have l5 : (A ++ [c1] ++ W ++ [c2] ++ C ++ [c3]).length = A.length + 1 + W.length + 1 + C.length + 1 := by simp only [List.length_append, List.length_cons, List.length_nil]
  rw [l1] at r3 r4 r5 r6 r7 p2
  rw [l2] at r4 r5 r6 r7
  rw [l3] at r5 r6 r7 p3
  rw [l4] at r6 r7
  rw [l5] at r7 p4
  simp only [List.length_nil, Nat.zero_add] at r1 r2 r3 r4 r5 r6 r7 p1 ⊢
  simp only [List.nil_append, List.cons_append] at r2 r4 r6
  rw [r1, r2, r3, r4, r5, r6, r7]
  simp only [Lib.spansFromP, Lib.closeSpans, List.cons_append, List.nil_append, List.map_cons, List.map_nil]
  have hend : s.size = A.length + 1 + W.length + 1 + C.length + 1 + P.length := by rw [hsz]; omega
  rw [hend, p1, p2, p3, p4]
theorem dig_p (n : Nat) : ∀ b ∈ Lib.decDigits n, b.toNat < 128 ∧ sepP b.toNat = false := by
  intro b hb
  have := dig_all n b hb
  refine ⟨by omega, ?_⟩
  simp [sepP]
  omega
/-- what the program reads, ahead of its look back -/
def implParse (l : List UInt8) : Option Bx :=
  match fieldsL (Lib.trimSuffix l [99]) with
  | [a, b, c, d] => some ⟨atV a, atV b, atV c, atV d, Lib.hasSuffix l [99]⟩
  | _ => none
theorem suffix_endC (l : List UInt8) : Lib.hasSuffix l [99] = endC l := by
  rw [Bool.eq_iff_iff, endC, beq_iff_eq, Lib.hasSuffix, List.isSuffixOf_iff_suffix]
  constructor
  · rintro ⟨t, rfl⟩
    simp
  · intro h
    obtain ⟨t, e⟩ := List.getLast?_eq_some_iff.1 h
    exact ⟨t, e.symm⟩
theorem trim_stripC (l : List UInt8) : Lib.trimSuffix l [99] = stripC l := by
  rw [Lib.trimSuffix, stripC, suffix_endC, List.dropLast_eq_take]
  rfl
theorem impl_back {x : Bx} (h : bxB x = true) : implParse (boxL x) = some x := by
  obtain ⟨⟨a1, a2⟩, ⟨b1, b2⟩, ⟨c1, c2⟩, d1, d2⟩ := bxB_iff.1 h
  obtain ⟨e1, e2⟩ := endC_box x
  rw [implParse, suffix_endC, trim_stripC, boxL, if_pos h, e1, e2, coreL, fields_core _ _ _ _ 58 47 47 (by decide) (by decide) (by decide) (dig_p _) (dig_p _) (dig_p _) (dig_p _) (dec_ne _) (dec_ne _) (dec_ne _) (dec_ne _)]
  simp only
  rw [atV_dec (by omega), atV_dec (by omega), atV_dec (by omega), atV_dec (by omega), Int.toNat_of_nonneg (by omega), Int.toNat_of_nonneg (by omega), Int.toNat_of_nonneg (by omega), Int.toNat_of_nonneg (by omega)]
theorem impl_nil : implParse [] = none := by
  have : fieldsL [] = [] := rfl
  simp [implParse, trim_stripC, stripC, endC, this]

/-! ### Both readings look back, and agree -/
def zeroB : Bx := ⟨0, 0, 0, 0, false⟩
/-- a reading that is held against the text -/
def lookB (o : Option Bx) (l : List UInt8) : Bx × Bool := match o with | some x => if boxL x = l then (x, true) else (zeroB, false) | none => (zeroB, false)
def readB (l : List UInt8) : Bx × Bool := lookB (specParse l) l
theorem look_spec {l : List UInt8} {x : Bx} (h : (lookB (specParse l) l) = (x, true)) : bxB x = true ∧ boxL x = l := by
  unfold lookB at h
  split at h
  · rename_i y hy
    split at h
    · rename_i hb
      injection h with h1 _
      subst h1
      refine ⟨?_, hb⟩
      cases hx : bxB y with
      | true => rfl
      | false =>
        rw [boxL_nil.2 hx] at hb
        subst hb
        rw [spec_nil] at hy
        cases hy
    · cases h
  · cases h
theorem read_box {x : Bx} (h : bxB x = true) : readB (boxL x) = (x, true) := by
  rw [readB, spec_back h, lookB]
  simp only [if_true]
theorem read_none {l : List UInt8} (h : ∀ x, bxB x = true → boxL x ≠ l) : readB l = (zeroB, false) := by
  unfold readB lookB
  split
  · rename_i y hy
    split
    · rename_i hb
      cases hx : bxB y with
      | true => exact absurd hb (h y hx)
      | false =>
        rw [boxL_nil.2 hx] at hb
        subst hb
        rw [spec_nil] at hy
        cases hy
    · rfl
  · rfl
theorem look_impl (l : List UInt8) : lookB (implParse l) l = readB l := by
  by_cases h : ∃ x, bxB x = true ∧ boxL x = l
  · obtain ⟨x, hx, rfl⟩ := h
    rw [read_box hx, impl_back hx, lookB]
    simp only [if_true]
  · have hn : ∀ x, bxB x = true → boxL x ≠ l := fun x hx e => h ⟨x, hx, e⟩
    rw [read_none hn]
    unfold lookB
    split
    · rename_i y hy
      split
      · rename_i hb
        cases hx : bxB y with
        | true => exact absurd hb (hn y hx)
        | false =>
          rw [boxL_nil.2 hx] at hb
          subst hb
          rw [impl_nil] at hy
          cases hy
      · rfl
    · rfl
/-- with a slash behind it no text is a box's -/
theorem read_slash (l : List UInt8) : (readB (l ++ [47])).2 = false := by
  rw [read_none]
  intro x hx e
  rw [boxL, if_pos hx] at e
  have h1 := congrArg List.getLast? e
  rw [List.getLast?_append] at h1
  cases hc : x.co with
  | true =>
    simp [coL, hc] at h1
  | false =>
    obtain ⟨l, b, e2, h3, h4⟩ := coreL_last x
    simp [coL, hc, e2] at h1
    rw [h1] at h3
    exact absurd h3 (by decide)
end Go.Proofs.YtbhmbmfhbeocoaaDoor
