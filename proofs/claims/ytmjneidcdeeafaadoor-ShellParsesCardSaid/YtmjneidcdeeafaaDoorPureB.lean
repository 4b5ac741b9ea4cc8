/- The plain half of ShellParses, third part: numbers, words that fit, words and lines as the printed loops find them. -/
import Derived.Test.YtmjneidcdeeafaaDoorPureA
namespace Go.Proofs.YtmjneidcdeeafaaDoor.Pure
open Go.RowKit Go.Lib Go.Proofs.YtmjneidcdeeafaaDoor.Plain Go.Proofs.YtmjneidcdeeafaaDoor.QP Go.Proofs.YtmjneidcdeeafaaDoorW.PrintWords Go.Proofs.YtmjneidcdeeafaaDoorW.PrintLast
set_option linter.unusedVariables false

theorem shape_ev (w : ByteArray) : Ev (fun k => shell_shape.f k w) (shapeL w.data.toList) := by
  have h := (shapes w.data.toList).1
  rw [show toB w.data.toList = w from ext_B (toB_data _)] at h
  exact Ev.of (fun k => shell_shape.mono w k) h
theorem Shape_ev (w : ByteArray) : Ev (fun k => sedimentref30_Shape.f k w) (shapeL w.data.toList) := by
  have h := (shapes w.data.toList).2
  rw [show toB w.data.toList = w from ext_B (toB_data _)] at h
  exact Ev.of (fun k => sedimentref30_Shape.mono w k) h
theorem table_kinds : ∀ p ∈ table, ∀ c ∈ p.2, c = 68 ∨ c = 78 := by decide
theorem bt_toB (l : List UInt8) (i : Nat) (c : UInt8) (h : l[i]? = some c) : bt (toB l) i = c.toNat := by
  have hi : i < l.length := (List.getElem?_eq_some_iff.1 h).1
  have hs : i < (toB l).size := by rw [toB_size]; exact hi
  have hb := bt_at (toB l) i (by simpa using hs)
  rw [← hb]
  have : (toB l)[((i : Int)).toNat]'(by simpa using hs) = c := by
    have h2 := (List.getElem?_eq_some_iff.1 h).2
    simp only [Int.toNat_natCast]
    show (toB l).data[i] = c
    simp [toB, h2]
  rw [this]
theorem shapeL_kinds (l : List UInt8) (i : Nat) (hi : i < (shapeL l).1.size) : bt (shapeL l).1 i = 68 ∨ bt (shapeL l).1 i = 78 := by
  unfold shapeL at hi ⊢
  cases hf : table.find? (fun p => p.1 == l) with
  | none => rw [hf] at hi; simp at hi; exact absurd hi (by have : (⟨#[]⟩ : ByteArray).size = 0 := rfl; omega)
  | some p =>
    rw [hf] at hi
    simp only at hi ⊢
    rw [toB_size] at hi
    have hm := List.mem_of_find?_eq_some hf
    have hg := List.getElem?_eq_getElem hi
    rw [bt_toB _ _ _ hg]
    rcases table_kinds p hm _ (List.getElem_mem hi) with h | h <;> rw [h]
    · exact .inl rfl
    · exact .inr rfl

/-! ### numbers -/
def digit (c : UInt8) : Bool := decide (48 ≤ c.toNat) && decide (c.toNat ≤ 57)
def numB (w : ByteArray) : Bool := decide (1 ≤ w.size) && decide (w.size ≤ 4) && w.data.toList.all digit
set_option maxRecDepth 100000 in
theorem cs_digit (c : UInt8) : ([48, 49, 50, 51, 52, 53, 54, 55, 56, 57] : List UInt8).contains c = digit c := by
  have : ∀ n : Fin 256, ([48, 49, 50, 51, 52, 53, 54, 55, 56, 57] : List UInt8).contains (UInt8.ofNat n.val) = digit (UInt8.ofNat n.val) := by decide
  have h := this ⟨c.toNat, c.toNat_lt⟩
  simpa using h
theorem dropWhile_nil {α : Type} (p : α → Bool) : ∀ l : List α, l.dropWhile p = [] ↔ l.all p = true
  | [] => by simp
  | a :: t => by
    rw [List.dropWhile_cons, List.all_cons]
    by_cases h : p a = true
    · rw [if_pos h, dropWhile_nil p t]; simp [h]
    · rw [if_neg h]; simp [h]
theorem trimS_nil (l : List UInt8) : trimS l [48, 49, 50, 51, 52, 53, 54, 55, 56, 57] = [] ↔ l.all digit = true := by
  unfold trimS trimLeftS trimRightS
  have e : (fun x => ([48, 49, 50, 51, 52, 53, 54, 55, 56, 57] : List UInt8).contains x) = digit := funext cs_digit
  rw [e, dropWhile_nil]
  constructor
  · intro h
    by_cases ha : l.all digit = true
    · exact ha
    · exfalso
      have h1 : ¬ l.reverse.all digit = true := by simpa using ha
      have h2 : l.reverse.dropWhile digit ≠ [] := fun h3 => h1 ((dropWhile_nil _ _).1 h3)
      obtain ⟨a, t, hat⟩ := List.exists_cons_of_ne_nil h2
      have h3 : digit a = false := by
        have := List.head?_dropWhile_not digit l.reverse
        rw [hat] at this
        simpa using this
      rw [hat] at h
      simp at h
      rw [h.2] at h3
      cases h3
  · intro h
    have h1 : l.reverse.all digit = true := by simpa using h
    rw [(dropWhile_nil _ _).2 h1]
    rfl
theorem parse_ok : ∀ (l : List UInt8) (acc : Nat), l.all digit = true → (acc + 1) * 10 ^ l.length ≤ 100000 → ∃ u, parseUint10 acc l = .ok u ∧ u < 100000
  | [], acc, _, h => ⟨acc, rfl, by simp at h; omega⟩
  | c :: t, acc, ha, h => by
    rw [List.all_cons, Bool.and_eq_true] at ha
    have hc := ha.1
    simp only [digit, Bool.and_eq_true, decide_eq_true_eq] at hc
    rw [List.length_cons, Nat.pow_succ] at h
    have hp : 1 ≤ 10 ^ t.length := Nat.one_le_pow _ _ (by omega)
    have h2 : (acc * 10 + (c.toNat - 48) + 1) * 10 ^ t.length ≤ 100000 := by
      refine Nat.le_trans ?_ h
      rw [Nat.mul_comm (10 ^ t.length) 10, ← Nat.mul_assoc]
      exact Nat.mul_le_mul_right _ (by omega)
    have h3 : acc * 10 + (c.toNat - 48) + 1 ≤ 100000 := Nat.le_trans (Nat.le_mul_of_pos_right _ hp) h2
    unfold parseUint10
    rw [if_pos hc, if_neg (by omega), if_neg (by omega)]
    exact parse_ok t _ ha.2 h2
theorem atoi_ok (l : List UInt8) (h1 : 1 ≤ l.length) (h4 : l.length ≤ 4) (ha : l.all digit = true) : ∃ v, atoiAll l = .ok v := by
  have hp : (0 + 1) * 10 ^ l.length ≤ 100000 := by
    have : 10 ^ l.length ≤ 10 ^ 4 := Nat.pow_le_pow_right (by omega) h4
    omega
  obtain ⟨u, hu, hlt⟩ := parse_ok l 0 ha hp
  cases l with
  | nil => simp at h1
  | cons c t =>
    rw [List.all_cons, Bool.and_eq_true] at ha
    have hc := ha.1
    simp only [digit, Bool.and_eq_true, decide_eq_true_eq] at hc
    refine ⟨u, ?_⟩
    unfold atoiAll
    simp only
    rw [if_neg (by omega)]
    unfold parseMag
    rw [if_neg (by simp), hu]
    simp only
    rw [if_neg (by omega), if_neg (by omega), if_neg (by omega)]
theorem toList_nil (w : ByteArray) : w.toList = [] ↔ w.size = 0 := by
  rw [toList_data, size_eq]
  exact List.length_eq_zero_iff.symm
theorem number_some (w : ByteArray) : ∃ v, shell_number.f w = some (v, numB w) := by
  unfold shell_number.f
  by_cases h0 : w.toList = []
  · rw [if_pos h0]
    have := (toList_nil w).1 h0
    exact ⟨0, by simp [numB, this]⟩
  rw [if_neg h0]
  have h1 : 1 ≤ w.size := by
    have : w.size ≠ 0 := fun e => h0 ((toList_nil w).2 e)
    omega
  by_cases h4 : (w.size : Int) > 4
  · rw [if_pos h4]
    exact ⟨0, by have : ¬ w.size ≤ 4 := by omega
                 simp [numB, this]⟩
  rw [if_neg h4]
  have ht : strings_Trim.f w (⟨#[48, 49, 50, 51, 52, 53, 54, 55, 56, 57]⟩ : ByteArray) = some ⟨(trimS w.data.toList [48, 49, 50, 51, 52, 53, 54, 55, 56, 57]).toArray⟩ := by
    show Ext.trimF _ _ = _
    unfold Ext.trimF
    rw [if_pos ⟨by omega, by decide, by decide⟩]
  rw [ht, Option.bind_some]
  have hb : numB w = w.data.toList.all digit := by
    have e1 : decide (1 ≤ w.size) = true := decide_eq_true h1
    have e2 : decide (w.size ≤ 4) = true := decide_eq_true (by omega)
    unfold numB
    rw [e1, e2]
    simp
  have hl : (⟨(trimS w.data.toList [48, 49, 50, 51, 52, 53, 54, 55, 56, 57]).toArray⟩ : ByteArray).toList = trimS w.data.toList [48, 49, 50, 51, 52, 53, 54, 55, 56, 57] := by
    rw [toList_data]
  rw [hl, hb]
  by_cases ha : w.data.toList.all digit = true
  · rw [if_pos ((trimS_nil _).2 ha), ha]
    obtain ⟨v, hv⟩ := atoi_ok w.data.toList (by rw [← size_eq]; exact h1) (by rw [← size_eq]; omega) ha
    refine ⟨v, ?_⟩
    have : strconv_Atoi.f w = some (v, none) := by
      show Ext.atoiF _ = _
      unfold Ext.atoiF
      rw [if_pos (by omega), hv]
    rw [this]
    rfl
  · rw [if_neg (fun h => ha ((trimS_nil _).1 h))]
    exact ⟨0, by simp at ha; simp [ha]⟩
def fitsB (kd : Int) (w : ByteArray) : Bool := if kd = 68 then numB w else decide (w.size ≤ 20)
theorem fits_some (kd : Int) (w : ByteArray) : shell_fits.f kd w = some (fitsB kd w) := by
  unfold shell_fits.f fitsB
  split
  · obtain ⟨v, hv⟩ := number_some w
    rw [hv]
    rfl
  · congr 1
    simp only [decide_eq_decide]
    omega
end Go.Proofs.YtmjneidcdeeafaaDoor.Pure
