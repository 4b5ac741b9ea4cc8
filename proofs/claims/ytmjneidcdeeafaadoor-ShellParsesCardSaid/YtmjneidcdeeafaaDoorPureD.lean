/- The plain half of ShellParses, last part: both readers come to 'specL' of the lines; the law. -/
import Derived.Test.YtmjneidcdeeafaaDoorPureC
namespace Go.Proofs.YtmjneidcdeeafaaDoor.Pure
open Go.RowKit Go.Lib Go.Proofs.YtmjneidcdeeafaaDoor.Plain Go.Proofs.YtmjneidcdeeafaaDoor.QP Go.Proofs.YtmjneidcdeeafaaDoorW.PrintWords Go.Proofs.YtmjneidcdeeafaaDoorW.PrintLast
set_option linter.unusedVariables false

/-! ### the document's words and lines -/
theorem byte_ne {c n : UInt8} (h : ¬ c = n) : ¬ (c.toNat : Int) = n.toNat := fun e => h (UInt8.toNat_inj.1 (by omega))
theorem extract_piece (s : ByteArray) (a b : Nat) : s.extract a b = toB (pieceU s.data.toList a b) := ext_B (by rw [extract_data, toB_data]; rfl)
theorem piece_snoc (l : List UInt8) (a i : Nat) (h : a ≤ i) (hi : i < l.length) : pieceU l a (i + 1) = pieceU l a i ++ [l[i]] := by
  rw [← pieceU_grow l a i 1 h, List.drop_eq_getElem_cons hi, List.take_succ_cons, List.take_zero]
theorem piece_same (l : List UInt8) (a : Nat) : pieceU l a a = [] := by simp [pieceU]
theorem piece_end (l : List UInt8) (a : Nat) : pieceU l a l.length = l.drop a := by
  unfold pieceU
  rw [List.take_of_length_le (by simp)]
theorem words_loop (s : ByteArray) (hs : s.size ≤ 1000000) : ∀ (d i a : Nat) (out : List ByteArray), i + d = s.size → a ≤ i → out.length ≤ i →
    Ev (fun k => sedimentref30_Words.l0 k s out a i) (out ++ (wordsGo (pieceU s.data.toList a i) (s.data.toList.drop i)).map toB)
  | 0, i, a, out, hd, ha, ho => by
    have hdrop : s.data.toList.drop i = [] := List.drop_eq_nil_of_le (by rw [← size_eq]; omega)
    have hend : ∀ (x3 : List ByteArray) (x4 : Int), Ev (fun k => sedimentref30_Words.l0 k s x3 x4 ((i : Int) + 1)) x3 := fun x3 x4 =>
      Ev.step (f := fun _ => some x3) (fun k => by simp only [sedimentref30_Words.l0]; rw [if_neg (by omega)]) (Ev.now _)
    have e1 : wrap64 ((i : Int) + 1) = (i : Int) + 1 := w64 (by omega) (by omega)
    rw [hdrop, wordsGo]
    refine Ev.step (f := fun k => sedimentref30_Words.j1 k s out a i false) (fun k => by simp only [sedimentref30_Words.l0]; rw [if_pos (by omega), if_neg (by omega)]) ?_
    by_cases hai : a = i
    · subst hai
      rw [if_pos (piece_same _ _)]
      refine Ev.step (f := fun k => sedimentref30_Words.l0 k s out ((a : Int) + 1) ((a : Int) + 1)) (fun k => ?_) ?_
      · simp only [sedimentref30_Words.j1]
        rw [if_neg (by simp), if_neg (by omega), e1]
      · simpa using hend out _
    · have hne : pieceU s.data.toList a i ≠ [] := pieceU_ne _ _ _ (by omega) (by rw [← size_eq]; omega)
      rw [if_neg hne]
      refine Ev.step (f := fun k => sedimentref30_Words.l0 k s (out ++ [s.extract a i]) ((i : Int) + 1) ((i : Int) + 1)) (fun k => ?_) ?_
      · simp only [sedimentref30_Words.j1]
        rw [if_neg (by simp), if_pos (by omega), if_pos (by omega), if_pos (by omega), if_pos (by omega), if_pos (by omega), e1]
        simp
      · rw [extract_piece]
        simpa using hend _ _
  | d + 1, i, a, out, hd, ha, ho => by
    have hi : i < s.data.toList.length := by rw [← size_eq]; omega
    have hc := bt_get s i _ (List.getElem?_eq_getElem hi)
    have hdrop : s.data.toList.drop i = s.data.toList[i] :: s.data.toList.drop (i + 1) := List.drop_eq_getElem_cons hi
    have hsn := piece_snoc s.data.toList a i ha hi
    have e1 : wrap64 ((i : Int) + 1) = (i : Int) + 1 := w64 (by omega) (by omega)
    generalize s.data.toList[i] = c at hc hdrop hsn
    refine Ev.step (f := fun k => sedimentref30_Words.j1 k s out a i ((bt s i) != 32)) (fun k => by simp only [sedimentref30_Words.l0]; rw [if_pos (by omega), if_pos (by omega), if_pos (by omega)]) ?_
    rw [hdrop, wordsGo]
    by_cases h32 : c = 32
    · have hb : ((bt s i) != 32) = false := bne_eq_false_iff_eq.2 (by rw [hc, h32]; rfl)
      rw [hb, if_pos h32]
      by_cases hai : a = i
      · subst hai
        rw [if_pos (piece_same _ _)]
        have ih := words_loop s hs d (a + 1) (a + 1) out (by omega) (Nat.le_refl _) (by omega)
        rw [piece_same] at ih
        refine Ev.step (f := fun k => sedimentref30_Words.l0 k s out ((a + 1 : Nat) : Int) ((a + 1 : Nat) : Int)) (fun k => ?_) ih
        simp only [sedimentref30_Words.j1]
        rw [if_neg (by simp), if_neg (by omega), e1]
        rfl
      · have hne : pieceU s.data.toList a i ≠ [] := pieceU_ne _ _ _ (by omega) (by rw [← size_eq]; omega)
        rw [if_neg hne]
        have ih := words_loop s hs d (i + 1) (i + 1) (out ++ [s.extract a i]) (by omega) (Nat.le_refl _) (by simp; omega)
        rw [piece_same] at ih
        refine Ev.step (f := fun k => sedimentref30_Words.l0 k s (out ++ [s.extract a i]) ((i + 1 : Nat) : Int) ((i + 1 : Nat) : Int)) (fun k => ?_) ?_
        · simp only [sedimentref30_Words.j1]
          rw [if_neg (by simp), if_pos (by omega), if_pos (by omega), if_pos (by omega), if_pos (by omega), if_pos (by omega), e1]
          simp
        · rw [extract_piece] at ih ⊢
          simpa using ih
    · have hb : ((bt s i) != 32) = true := bne_iff_ne.2 (by rw [hc]; exact byte_ne h32)
      rw [hb, if_neg h32, ← hsn]
      have ih := words_loop s hs d (i + 1) a out (by omega) (by omega) (by omega)
      refine Ev.step (f := fun k => sedimentref30_Words.l0 k s out a ((i + 1 : Nat) : Int)) (fun k => ?_) ih
      simp only [sedimentref30_Words.j1]
      rw [if_pos trivial, e1]
      rfl
def wordsB (s : ByteArray) : List ByteArray := (words s.data.toList).map toB
theorem words_ev (s : ByteArray) (hs : s.size ≤ 1000000) : Ev (fun k => sedimentref30_Words.f k s) (wordsB s) := by
  have h := words_loop s hs s.size 0 0 [] (by omega) (Nat.le_refl _) (Nat.zero_le _)
  rw [piece_same, List.drop_zero, List.nil_append] at h
  exact h
theorem lines_loop (s : ByteArray) (hs : s.size ≤ 1000000) : ∀ (d i a : Nat) (out : List ByteArray), i + d = s.size → a ≤ i → out.length ≤ i →
    Ev (fun k => sedimentref30_Lines.l0 k s out a i) (out ++ (linesGo (pieceU s.data.toList a i) (s.data.toList.drop i)).map toB)
  | 0, i, a, out, hd, ha, ho => by
    have hdrop : s.data.toList.drop i = [] := List.drop_eq_nil_of_le (by rw [← size_eq]; omega)
    rw [hdrop, linesGo]
    by_cases hai : a = i
    · subst hai
      rw [if_pos (piece_same _ _)]
      exact Ev.step (f := fun _ => some (out ++ [].map toB)) (fun k => by simp only [sedimentref30_Lines.l0]; rw [if_neg (by omega), if_neg (by omega)]; simp) (Ev.now _)
    · have hne : pieceU s.data.toList a i ≠ [] := pieceU_ne _ _ _ (by omega) (by rw [← size_eq]; omega)
      have hsz : s.size = i := by omega
      rw [if_neg hne]
      refine Ev.step (f := fun _ => some (out ++ [pieceU s.data.toList a i].map toB)) (fun k => ?_) (Ev.now _)
      simp only [sedimentref30_Lines.l0]
      rw [if_neg (by omega), if_pos (by omega), if_pos (by omega), if_pos (by omega), if_pos (by omega), hsz]
      simp [extract_piece]
  | d + 1, i, a, out, hd, ha, ho => by
    have hi : i < s.data.toList.length := by rw [← size_eq]; omega
    have hc := bt_get s i _ (List.getElem?_eq_getElem hi)
    have hdrop : s.data.toList.drop i = s.data.toList[i] :: s.data.toList.drop (i + 1) := List.drop_eq_getElem_cons hi
    have hsn := piece_snoc s.data.toList a i ha hi
    have e1 : wrap64 ((i : Int) + 1) = (i : Int) + 1 := w64 (by omega) (by omega)
    generalize s.data.toList[i] = c at hc hdrop hsn
    rw [hdrop, linesGo]
    by_cases h10 : c = 10
    · have hb : (bt s i) = 10 := by rw [hc, h10]; rfl
      rw [if_pos h10]
      have ih := lines_loop s hs d (i + 1) (i + 1) (out ++ [s.extract a i]) (by omega) (Nat.le_refl _) (by simp; omega)
      rw [piece_same] at ih
      refine Ev.step (f := fun k => sedimentref30_Lines.l0 k s (out ++ [s.extract a i]) ((i + 1 : Nat) : Int) ((i + 1 : Nat) : Int)) (fun k => ?_) ?_
      · simp only [sedimentref30_Lines.l0]
        rw [if_pos (by omega), if_pos (by omega), if_pos hb, if_pos (by omega), if_pos (by omega), if_pos (by omega), if_pos (by omega), e1]
        simp
      · rw [extract_piece] at ih ⊢
        simpa using ih
    · have hb : ¬ (bt s i) = 10 := by
        rw [hc]
        exact byte_ne h10
      rw [if_neg h10, ← hsn]
      have ih := lines_loop s hs d (i + 1) a out (by omega) (by omega) (by omega)
      refine Ev.step (f := fun k => sedimentref30_Lines.l0 k s out a ((i + 1 : Nat) : Int)) (fun k => ?_) ih
      simp only [sedimentref30_Lines.l0]
      rw [if_pos (by omega), if_pos (by omega), if_neg hb, e1]
      rfl
theorem lines_ev (s : ByteArray) (hs : s.size ≤ 1000000) : Ev (fun k => sedimentref30_Lines.f k s) ((linesGo [] s.data.toList).map toB) := by
  have h := lines_loop s hs s.size 0 0 [] (by omega) (Nat.le_refl _) (Nat.zero_le _)
  rw [piece_same, List.drop_zero, List.nil_append] at h
  exact h
end Go.Proofs.YtmjneidcdeeafaaDoor.Pure
