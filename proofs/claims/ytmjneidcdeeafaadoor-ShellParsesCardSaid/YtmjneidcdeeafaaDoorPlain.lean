/- The plain half of ShellParses, first part: words and lines of a script as functions on lists of bytes. strings.FieldsFunc at a blank comes to the words by bytes (no rune but the blank has the byte 32); cutting at line feeds comes to the lines. No program in sight. -/
import Derived.Lib.FieldsP
import Derived.Lib.SpaceUEq
import Derived.Lib.SlTrimSet
import Derived.Lib.AtoiAll
import Derived.Lib.Bytealg
namespace Go.Proofs.YtmjneidcdeeafaaDoor.Plain
open Go Go.Lib

/-- the words of a line: runs of bytes other than 32 -/
def wordsGo (cur : List UInt8) : List UInt8 → List (List UInt8)
  | [] => if cur = [] then [] else [cur]
  | c :: t => if c = 32 then (if cur = [] then wordsGo [] t else cur :: wordsGo [] t) else wordsGo (cur ++ [c]) t
def words (l : List UInt8) : List (List UInt8) := wordsGo [] l

/-- the first line, and what is behind its line feed -/
def cutLine : List UInt8 → List UInt8 × List UInt8
  | [] => ([], [])
  | c :: t => if c = 10 then ([], t) else (c :: (cutLine t).1, (cutLine t).2)

/-- all lines, byte by byte -/
def linesGo (cur : List UInt8) : List UInt8 → List (List UInt8)
  | [] => if cur = [] then [] else [cur]
  | c :: t => if c = 10 then cur :: linesGo [] t else linesGo (cur ++ [c]) t

theorem linesGo_cut : ∀ (l cur : List UInt8), linesGo cur l = if cur = [] ∧ l = [] then [] else (cur ++ (cutLine l).1) :: linesGo [] (cutLine l).2
  | [], cur => by
    by_cases h : cur = [] <;> simp [linesGo, cutLine, h]
  | c :: t, cur => by
    rw [if_neg (by simp), linesGo, cutLine]
    by_cases h : c = 10
    · simp [h]
    · rw [if_neg h, if_neg h, linesGo_cut t (cur ++ [c]), if_neg (by simp)]
      simp

theorem cutLine_len : ∀ (l : List UInt8), l ≠ [] → (cutLine l).2.length < l.length ∧ (cutLine l).1.length ≤ l.length
  | [], h => absurd rfl h
  | c :: t, _ => by
    unfold cutLine
    split
    · simp
    · cases t with
      | nil => simp [cutLine]
      | cons d u =>
        have := cutLine_len (d :: u) (by simp)
        simp only [List.length_cons] at this ⊢
        omega

theorem indexByte_ge (c : UInt8) : ∀ l : List UInt8, -1 ≤ indexByte l c
  | [] => by simp [indexByte]
  | b :: l => by
    have := indexByte_ge c l
    unfold indexByte
    split
    · omega
    · split
      · omega
      · omega
theorem cutLine_found : ∀ (l : List UInt8) (n : Nat), indexByte l 10 = n → cutLine l = (l.take n, l.drop (n + 1))
  | [], n, h => by simp [indexByte] at h
  | b :: l, n, h => by
    unfold indexByte at h
    unfold cutLine
    by_cases hb : b = 10
    · subst hb
      simp at h
      obtain rfl : n = 0 := by omega
      simp
    · have hb' : (b == 10) = false := by simpa using hb
      rw [hb'] at h
      simp only [Bool.false_eq_true, if_false] at h
      split at h
      · omega
      · have hge := indexByte_ge 10 l
        obtain ⟨m, hm⟩ : ∃ m : Nat, indexByte l 10 = m := ⟨(indexByte l 10).toNat, by
          have : ¬ indexByte l 10 = -1 := by rename_i h1; simpa using h1
          omega⟩
        obtain rfl : n = m + 1 := by omega
        rw [if_neg hb, cutLine_found l m hm]
        simp
theorem cutLine_none : ∀ (l : List UInt8), ¬ 0 ≤ indexByte l 10 → cutLine l = (l, [])
  | [], _ => by simp [cutLine]
  | b :: l, h => by
    unfold indexByte at h
    unfold cutLine
    by_cases hb : b = 10
    · subst hb
      simp at h
    · have hb' : (b == 10) = false := by simpa using hb
      rw [hb'] at h
      simp only [Bool.false_eq_true, if_false] at h
      have hge := indexByte_ge 10 l
      have hn : ¬ 0 ≤ indexByte l 10 := by
        intro h0
        rw [if_neg (by simp; omega)] at h
        omega
      rw [if_neg hb, cutLine_none l hn]

/-! ### FieldsFunc at a blank -/
theorem wordsGo_skip : ∀ (k : Nat) (cur l : List UInt8), k ≤ l.length → (∀ j, j < k → l.getD j 0 ≠ 32) → wordsGo cur l = wordsGo (cur ++ l.take k) (l.drop k)
  | 0, cur, l, _, _ => by simp
  | k + 1, cur, [], h, _ => by simp at h
  | k + 1, cur, b :: t, h, hz => by
    have h0 : b ≠ 32 := by simpa using hz 0 (by omega)
    rw [wordsGo, if_neg h0, wordsGo_skip k (cur ++ [b]) t (by simpa using h) (fun j hj => by simpa using hz (j + 1) (by omega))]
    simp

/-- what a rune is at a place: a blank just where the byte is one; else its bytes are none. -/
theorem rune_blank (l : List UInt8) (hne : l ≠ []) : ((decodeL l).1 = 32 ∧ l.getD 0 0 = 32 ∧ (decodeL l).2 = 1) ∨ ((decodeL l).1 ≠ 32 ∧ (decodeL l).2 ≤ l.length ∧ 1 ≤ (decodeL l).2 ∧ ∀ j, j < (decodeL l).2 → l.getD j 0 ≠ 32) := by
  have hl : 0 < l.length := List.length_pos_iff.2 hne
  have hd := decodeN_cases l.length (l.getD 0 0).toNat (l.getD 1 0).toNat (l.getD 2 0).toNat (l.getD 3 0).toNat
  have hc := decodeN_conts l.length (l.getD 0 0).toNat (l.getD 1 0).toNat (l.getD 2 0).toNat (l.getD 3 0).toNat
  rw [← decodeL_N] at hd hc
  have ne : ∀ (x : UInt8), x.toNat ≠ 32 → x ≠ 32 := fun x hx he => hx (by rw [he]; rfl)
  rcases hd with ⟨h0, he⟩ | ⟨h0, h1, h2, h3, he⟩ | ⟨h0, h1, h2, h3, h4, he⟩ | ⟨h0, he⟩ | he
  · by_cases h32 : (l.getD 0 0).toNat = 32
    · refine .inl ⟨by rw [he, h32], UInt8.toNat_inj.1 (by rw [h32]; rfl), by rw [he]⟩
    · refine .inr ⟨by rw [he]; exact h32, by rw [he]; exact hl, by rw [he]; exact Nat.le_refl _, fun j hj => ?_⟩
      rw [he] at hj
      obtain rfl : j = 0 := by simp at hj; omega
      exact ne _ h32
  · refine .inr ⟨by rw [he]; simp only; omega, by rw [he]; simp only; omega, by rw [he]; simp, fun j hj => ?_⟩
    rw [he] at hj
    match j, hj with
    | 0, _ => exact ne _ (by omega)
    | 1, _ => exact ne _ (by omega)
  · refine .inr ⟨by rw [he]; simp only; omega, by rw [he]; simp only; omega, by rw [he]; simp, fun j hj => ?_⟩
    rw [he] at hj
    match j, hj with
    | 0, _ => exact ne _ (by omega)
    | 1, _ => exact ne _ (by omega)
    | 2, _ => exact ne _ (by omega)
  · obtain ⟨c2, c3, c4, c5⟩ := hc
    have h128 : 128 ≤ (l.getD 0 0).toNat := by
      rcases Nat.lt_or_ge (l.getD 0 0).toNat 128 with h | h
      · exfalso
        have h9 : decodeL l = ((l.getD 0 0).toNat, 1) := by rw [decodeL_N]; unfold decodeN; rw [if_pos h]
        rw [h9] at he
        cases he
      · exact h
    refine .inr ⟨by omega, by have := c4 (by omega); omega, by omega, fun j hj => ?_⟩
    rw [he] at hj
    match j, hj with
    | 0, _ => exact ne _ (by omega)
    | 1, _ => exact ne _ (by have := c2 (by omega); omega)
    | 2, _ => exact ne _ (by have := c3 (by omega); omega)
    | 3, _ => exact ne _ (by have := c4 (by omega); omega)
  · by_cases h32 : (l.getD 0 0).toNat < 128
    · exfalso
      have h9 : decodeL l = ((l.getD 0 0).toNat, 1) := by rw [decodeL_N]; unfold decodeN; rw [if_pos h32]
      rw [h9] at he
      have h10 := congrArg Prod.fst he
      simp only at h10
      omega
    · refine .inr ⟨by rw [he]; simp, by rw [he]; exact hl, by rw [he]; exact Nat.le_refl _, fun j hj => ?_⟩
      rw [he] at hj
      obtain rfl : j = 0 := by simp at hj; omega
      exact ne _ (by omega)

theorem spans_words (s : ByteArray) : ∀ (f pos : Nat) (st : Option Nat) (acc : List (Nat × Nat)), s.size ≤ pos + f → pos ≤ s.size → (∀ a, st = some a → a < pos) →
    acc.map (fun p => pieceU s.data.toList p.1 p.2) ++ wordsGo (openPiece s.data.toList st pos) (s.data.toList.drop pos) = (closeSpans s (spansFromP (fun r => r == 32) s f pos st acc)).map (fun p => pieceU s.data.toList p.1 p.2)
  | 0, pos, st, acc, h, hp, hst => by
    obtain rfl : pos = s.size := by omega
    have hd : s.data.toList.drop s.size = [] := List.drop_eq_nil_of_le (by rw [← size_eq]; exact Nat.le_refl _)
    rw [hd, wordsGo]
    cases st with
    | none => simp [spansFromP, closeSpans, openPiece]
    | some a =>
      have := pieceU_ne s.data.toList a s.size (hst a rfl) (by rw [← size_eq]; exact Nat.le_refl _)
      simp [spansFromP, closeSpans, openPiece, this]
  | f + 1, pos, st, acc, h, hp, hst => by
    by_cases hlt : pos < s.size
    · have hne : s.data.toList.drop pos ≠ [] := by
        intro h0
        have := congrArg List.length h0
        rw [List.length_drop, ← size_eq] at this
        simp at this
        omega
      have hlen : (s.data.toList.drop pos).length = s.size - pos := by rw [List.length_drop, ← size_eq]
      have hr := rune_blank _ hne
      rw [decodeL_drop] at hr
      unfold spansFromP
      rw [if_pos hlt]
      rcases hr with ⟨h1, h2, h3⟩ | ⟨h1, h2, h3, h4⟩
      · obtain ⟨b, t, hbt⟩ : ∃ b t, s.data.toList.drop pos = b :: t := by
          cases hx : s.data.toList.drop pos with
          | nil => exact absurd hx hne
          | cons b t => exact ⟨b, t, rfl⟩
        have hb : b = 32 := by rw [hbt] at h2; simpa using h2
        have ht : s.data.toList.drop (pos + 1) = t := by
          rw [← List.drop_drop, hbt]
          simp
        rw [h1, h3, hbt, wordsGo, if_pos hb]
        simp only [beq_self_eq_true, if_true]
        cases st with
        | none =>
          have ih := spans_words s f (pos + 1) none acc (by omega) (by omega) (fun a ha => by cases ha)
          simp only [openPiece, if_true] at ih ⊢
          rw [ht] at ih
          exact ih
        | some a =>
          have hne2 := pieceU_ne s.data.toList a pos (hst a rfl) (by rw [← size_eq]; omega)
          have ih := spans_words s f (pos + 1) none (acc ++ [(a, pos)]) (by omega) (by omega) (fun a ha => by cases ha)
          have hne3 : openPiece s.data.toList (some a) pos ≠ [] := hne2
          rw [if_neg hne3]
          simp only [openPiece] at ih ⊢
          rw [ht] at ih
          rw [← ih]
          simp
      · have h1' : ((Utf8.decode s pos).1 == 32) = false := by simpa using h1
        rw [h1']
        simp only [Bool.false_eq_true, if_false]
        rw [wordsGo_skip (Utf8.decode s pos).2 _ _ h2 h4, List.drop_drop]
        cases st with
        | none =>
          have ih := spans_words s f (pos + (Utf8.decode s pos).2) (some pos) acc (by omega) (by omega) (fun a ha => by injection ha with ha; omega)
          simp only [openPiece] at ih ⊢
          rw [← ih]
          have hg := pieceU_grow s.data.toList pos pos (Utf8.decode s pos).2 (Nat.le_refl _)
          have h0 : pieceU s.data.toList pos pos = [] := by simp [pieceU]
          rw [h0] at hg
          rw [hg]
        | some a =>
          have ih := spans_words s f (pos + (Utf8.decode s pos).2) (some a) acc (by omega) (by omega) (fun a' ha => by injection ha with ha; have := hst a rfl; omega)
          simp only [openPiece] at ih ⊢
          rw [← ih, pieceU_grow _ _ _ _ (Nat.le_of_lt (hst a rfl))]
    · obtain rfl : pos = s.size := by omega
      have hd : s.data.toList.drop s.size = [] := List.drop_eq_nil_of_le (by rw [← size_eq]; exact Nat.le_refl _)
      rw [hd, wordsGo, spansFromP_end _ _ _ _ _ _ hlt]
      cases st with
      | none => simp [closeSpans, openPiece]
      | some a =>
        have := pieceU_ne s.data.toList a s.size (hst a rfl) (by rw [← size_eq]; exact Nat.le_refl _)
        simp [closeSpans, openPiece, this]

def toB (l : List UInt8) : ByteArray := ⟨l.toArray⟩
theorem toB_data (l : List UInt8) : (toB l).data.toList = l := by simp [toB]
theorem toB_size (l : List UInt8) : (toB l).size = l.length := by rw [size_eq, toB_data]
theorem ext_B {a b : ByteArray} (h : a.data.toList = b.data.toList) : a = b := by
  obtain ⟨⟨a⟩⟩ := a; obtain ⟨⟨b⟩⟩ := b
  simp at h
  rw [h]
theorem fields_words (s : ByteArray) : goFieldsP (fun r => r == 32) s = (words s.data.toList).map toB := by
  have h := spans_words s s.size 0 none [] (by omega) (by omega) (fun a ha => by cases ha)
  simp only [List.map_nil, List.nil_append, openPiece, List.drop_zero] at h
  unfold words
  rw [h, List.map_map]
  unfold goFieldsP spansOfP
  refine List.map_congr_left fun p _ => ext_B ?_
  rw [extract_data, Function.comp, toB_data]
  rfl
end Go.Proofs.YtmjneidcdeeafaaDoor.Plain
