/- The plain half of ShellParses, fourth part: the document's loops (numbers, words, lines, the words that can be), each from its head on. -/
import Derived.Test.YtmjneidcdeeafaaDoorPureB
namespace Go.Proofs.YtmjneidcdeeafaaDoor.Pure
open Go.RowKit Go.Lib Go.Proofs.YtmjneidcdeeafaaDoor.Plain Go.Proofs.YtmjneidcdeeafaaDoor.QP Go.Proofs.YtmjneidcdeeafaaDoorW.PrintWords Go.Proofs.YtmjneidcdeeafaaDoorW.PrintLast
set_option linter.unusedVariables false

theorem w64 {i : Int} (h0 : -1000000000000 ≤ i) (h : i ≤ 1000000000000) : wrap64 i = i := by unfold wrap64; omega
theorem bt_get (s : ByteArray) (i : Nat) (c : UInt8) (h : s.data.toList[i]? = some c) : bt s i = c.toNat := by
  have := bt_toB s.data.toList i c h
  rwa [show toB s.data.toList = s from ext_B (toB_data _)] at this

/-- the document's number, from a digit on -/
theorem num_loop (s : ByteArray) (h4 : s.size ≤ 4) : ∀ (d i acc : Nat), i + d = s.size → acc + 1 ≤ 10 ^ i →
    ∃ v, Ev (fun k => sedimentref30_number.l0 k s acc i) v ∧ (v < 0 ↔ (s.data.toList.drop i).all digit = false)
  | 0, i, acc, hd, ha => by
    refine ⟨acc, Ev.step (f := fun _ => some (acc : Int)) (fun k => by simp only [sedimentref30_number.l0]; rw [if_neg (by omega)]) (Ev.now _), ?_⟩
    have : s.data.toList.drop i = [] := List.drop_eq_nil_of_le (by rw [← size_eq]; omega)
    rw [this]
    simp
  | d + 1, i, acc, hd, ha => by
    have hi : i < s.data.toList.length := by rw [← size_eq]; omega
    have hc := bt_get s i _ (List.getElem?_eq_getElem hi)
    have hdrop : s.data.toList.drop i = s.data.toList[i] :: s.data.toList.drop (i + 1) := List.drop_eq_getElem_cons hi
    generalize s.data.toList[i] = c at hc hdrop
    rw [hdrop, List.all_cons]
    have hc255 := c.toNat_lt
    by_cases h1 : bt s i < 48
    · refine ⟨-1, Ev.step (f := fun _ => some (-1)) (fun k => by simp only [sedimentref30_number.l0]; rw [if_pos (by omega), if_pos (by omega), if_pos h1]) (Ev.now _), ?_⟩
      have : digit c = false := by simp [digit]; omega
      simp [this]
    by_cases h2 : bt s i > 57
    · refine ⟨-1, Ev.step (f := fun _ => some (-1)) (fun k => by simp only [sedimentref30_number.l0]; rw [if_pos (by omega), if_pos (by omega), if_neg h1, if_pos h2]) (Ev.now _), ?_⟩
      have : digit c = false := by simp [digit]; omega
      simp [this]
    have hdig : digit c = true := by simp [digit]; omega
    have h10 : 10 ^ i ≤ 10 ^ 4 := Nat.pow_le_pow_right (by omega) (by omega)
    have h11 : 10 ^ (i + 1) = 10 ^ i * 10 := Nat.pow_succ ..
    obtain ⟨v, hv, hiff⟩ := num_loop s h4 d (i + 1) (10 * acc + (c.toNat - 48)) (by omega) (by omega)
    refine ⟨v, Ev.step (f := fun k => sedimentref30_number.l0 k s ((10 * acc + (c.toNat - 48) : Nat) : Int) ((i + 1 : Nat) : Int)) (fun k => ?_) hv, by rw [hdig, Bool.true_and]; exact hiff⟩
    simp only [sedimentref30_number.l0]
    rw [if_pos (by omega), if_pos (by omega), if_neg h1, if_neg h2]
    have e1 : wrap64 (10 * (acc : Int)) = 10 * (acc : Int) := w64 (by omega) (by omega)
    have e2 : (bt s i - 48) % 256 = bt s i - 48 := by omega
    rw [e1, e2, w64 (by omega) (by omega), w64 (by omega) (by omega)]
    congr 1
    omega
theorem number_ev (s : ByteArray) : ∃ v, Ev (fun k => sedimentref30_number.f k s) v ∧ (v < 0 ↔ numB s = false) := by
  by_cases h1 : (s.size : Int) < 1
  · refine ⟨-1, Ev.congr (f := fun k => sedimentref30_number.j0 k s 0 true) (fun k => by unfold sedimentref30_number.f; rw [if_pos h1]) (Ev.step (f := fun _ => some (-1)) (fun k => by simp only [sedimentref30_number.j0]; rfl) (Ev.now _)), ?_⟩
    have : numB s = false := by unfold numB; rw [decide_eq_false (by omega : ¬ 1 ≤ s.size)]; rfl
    simp [this]
  by_cases h4 : (s.size : Int) > 4
  · refine ⟨-1, Ev.congr (f := fun k => sedimentref30_number.j0 k s 0 true) (fun k => by unfold sedimentref30_number.f; rw [if_neg h1, decide_eq_true h4]) (Ev.step (f := fun _ => some (-1)) (fun k => by simp only [sedimentref30_number.j0]; rfl) (Ev.now _)), ?_⟩
    have : numB s = false := by unfold numB; rw [decide_eq_false (by omega : ¬ s.size ≤ 4)]; simp
    simp [this]
  obtain ⟨v, hv, hiff⟩ := num_loop s (by omega) s.size 0 0 (by omega) (by simp)
  refine ⟨v, Ev.congr (f := fun k => sedimentref30_number.j0 k s 0 false) (fun k => by unfold sedimentref30_number.f; rw [if_neg h1, decide_eq_false h4]) (Ev.step (f := fun k => sedimentref30_number.l0 k s 0 0) (fun k => by simp only [sedimentref30_number.j0]; rfl) hv), ?_⟩
  rw [hiff, List.drop_zero]
  unfold numB
  rw [decide_eq_true (by omega : 1 ≤ s.size), decide_eq_true (by omega : s.size ≤ 4)]
  simp

/-! ### the words behind the first one -/
def fitsAll (kinds : ByteArray) (ws : List ByteArray) : Nat → Nat → Bool
  | 0, _ => true
  | n + 1, i => fitsB (bt kinds i) (rdOf ByteArray.empty ws (i + 1)) && fitsAll kinds ws n (i + 1)
theorem fitsL_some (kinds : ByteArray) (ws : List ByteArray) : ∀ n i, shell_parsed.fitsL kinds ws n i = some (fitsAll kinds ws n i)
  | 0, _ => rfl
  | n + 1, i => by
    unfold shell_parsed.fitsL fitsAll
    rw [fits_some, Option.bind_some, fitsL_some kinds ws n (i + 1)]
    cases fitsB (bt kinds i) (rdOf ByteArray.empty ws (i + 1)) <;> simp
theorem can_loop (kinds : ByteArray) (ws : List ByteArray) (hk : ∀ i : Nat, i < kinds.size → bt kinds i = 68 ∨ bt kinds i = 78) (hl : kinds.size + 1 = ws.length) (hw : ws.length ≤ 1000000) :
    ∀ d i : Nat, i + d = kinds.size → Ev (fun k => sedimentref30_can.l0 k ws kinds i) (fitsAll kinds ws d i)
  | 0, i, hd => Ev.step (f := fun _ => some true) (fun k => by simp only [sedimentref30_can.l0]; rw [if_neg (by omega)]) (Ev.now _)
  | d + 1, i, hd => by
    have e1 : wrap64 ((i : Int) + 1) = (i : Int) + 1 := w64 (by omega) (by omega)
    have ih := can_loop kinds ws hk hl hw d (i + 1) (by omega)
    have head : ∀ k, sedimentref30_can.l0 (k + 1) ws kinds i = (if (bt kinds i) = 68 then ((sedimentref30_number.f k (rdOf ByteArray.empty ws ((i : Int) + 1))).bind fun t137 => (if t137 < 0 then (some false) else (if (bt kinds i) = 78 then (if ((rdOf ByteArray.empty ws ((i : Int) + 1)).size : Int) > 20 then (some false) else (sedimentref30_can.l0 k ws kinds ((i + 1 : Nat) : Int))) else (sedimentref30_can.l0 k ws kinds ((i + 1 : Nat) : Int))))) else (if (bt kinds i) = 78 then (if ((rdOf ByteArray.empty ws ((i : Int) + 1)).size : Int) > 20 then (some false) else (sedimentref30_can.l0 k ws kinds ((i + 1 : Nat) : Int))) else (sedimentref30_can.l0 k ws kinds ((i + 1 : Nat) : Int)))) := by
      intro k
      simp only [sedimentref30_can.l0]
      rw [if_pos (by omega), e1, if_pos (by omega), if_pos (by omega), if_pos (by omega)]
      rfl
    unfold fitsAll
    rcases hk i (by omega) with h68 | h78
    · obtain ⟨v, hv, hiff⟩ := number_ev (rdOf ByteArray.empty ws ((i : Int) + 1))
      have hf : fitsB (bt kinds i) (rdOf ByteArray.empty ws ((i : Int) + 1)) = numB (rdOf ByteArray.empty ws ((i : Int) + 1)) := by unfold fitsB; rw [if_pos h68]
      rw [hf]
      refine Ev.step head ?_
      refine Ev.congr (f := fun k => (sedimentref30_number.f k (rdOf ByteArray.empty ws ((i : Int) + 1))).bind fun t137 => if t137 < 0 then some false else sedimentref30_can.l0 k ws kinds ((i + 1 : Nat) : Int)) (fun k => by rw [if_pos h68]; congr 1; funext t; rw [if_neg (by omega : ¬ bt kinds i = 78)]) ?_
      refine Ev.bind (f := fun k t137 => if t137 < 0 then some false else sedimentref30_can.l0 k ws kinds ((i + 1 : Nat) : Int)) hv ?_
      by_cases hneg : v < 0
      · rw [hiff.1 hneg]
        exact Ev.congr (f := fun _ => some false) (fun k => if_pos hneg) (Ev.now _)
      · have : numB (rdOf ByteArray.empty ws ((i : Int) + 1)) = true := by
          cases hb : numB (rdOf ByteArray.empty ws ((i : Int) + 1)) with
          | true => rfl
          | false => exact absurd (hiff.2 hb) hneg
        rw [this, Bool.true_and]
        exact Ev.congr (fun k => if_neg hneg) ih
    · have hf : fitsB (bt kinds i) (rdOf ByteArray.empty ws ((i : Int) + 1)) = decide ((rdOf ByteArray.empty ws ((i : Int) + 1)).size ≤ 20) := by unfold fitsB; rw [if_neg (by omega)]
      rw [hf]
      refine Ev.step head ?_
      by_cases h20 : ((rdOf ByteArray.empty ws ((i : Int) + 1)).size : Int) > 20
      · rw [decide_eq_false (by omega : ¬ (rdOf ByteArray.empty ws ((i : Int) + 1)).size ≤ 20), Bool.false_and]
        exact Ev.congr (f := fun _ => some false) (fun k => by rw [if_neg (by omega : ¬ bt kinds i = 68), if_pos h78, if_pos h20]) (Ev.now _)
      · rw [decide_eq_true (by omega : (rdOf ByteArray.empty ws ((i : Int) + 1)).size ≤ 20), Bool.true_and]
        exact Ev.congr (fun k => by rw [if_neg (by omega : ¬ bt kinds i = 68), if_pos h78, if_neg h20]) ih
/-- whether words can be a command's -/
def canB (ws : List ByteArray) : Bool :=
  (shapeL (rdOf ByteArray.empty ws 0).data.toList).2 && (decide ((shapeL (rdOf ByteArray.empty ws 0).data.toList).1.size + 1 = ws.length) && fitsAll (shapeL (rdOf ByteArray.empty ws 0).data.toList).1 ws (shapeL (rdOf ByteArray.empty ws 0).data.toList).1.size 0)
theorem can_ev (ws : List ByteArray) (h0 : 0 < ws.length) (hw : ws.length ≤ 1000000) : Ev (fun k => sedimentref30_can.f k ws) (canB ws) := by
  have hS := Shape_ev (rdOf ByteArray.empty ws 0)
  have hk := shapeL_kinds (rdOf ByteArray.empty ws 0).data.toList
  unfold canB
  generalize shapeL (rdOf ByteArray.empty ws 0).data.toList = s at hS hk ⊢
  refine Ev.congr (f := fun k => (sedimentref30_Shape.f k (rdOf ByteArray.empty ws 0)).bind fun b => if b.2 = true then sedimentref30_can.j0 k ws b.1 ((wrap64 ((ws.length : Int) - 1)) != (b.1.size : Int)) else sedimentref30_can.j0 k ws b.1 true) (fun k => by unfold sedimentref30_can.f; rw [if_pos (by omega)]) ?_
  refine Ev.bind (f := fun k b => if b.2 = true then sedimentref30_can.j0 k ws b.1 ((wrap64 ((ws.length : Int) - 1)) != (b.1.size : Int)) else sedimentref30_can.j0 k ws b.1 true) hS ?_
  by_cases h2 : s.2 = true
  · rw [h2, Bool.true_and]
    rw [w64 (by omega) (by omega)]
    by_cases hl : s.1.size + 1 = ws.length
    · rw [decide_eq_true hl, Bool.true_and]
      refine Ev.step (f := fun k => sedimentref30_can.l0 k ws s.1 0) (fun k => ?_) (can_loop s.1 ws hk hl hw s.1.size 0 (by omega))
      rw [if_pos rfl, bne_eq_false_iff_eq.2 (by omega : (ws.length : Int) - 1 = (s.1.size : Int))]
      simp only [sedimentref30_can.j0]
      rfl
    · rw [decide_eq_false hl, Bool.false_and]
      refine Ev.step (f := fun k => some false) (fun k => ?_) (Ev.now _)
      rw [if_pos rfl, bne_iff_ne.2 (by omega : (ws.length : Int) - 1 ≠ (s.1.size : Int))]
      simp only [sedimentref30_can.j0]
      rfl
  · have h2' : s.2 = false := by simpa using h2
    rw [h2', Bool.false_and]
    refine Ev.step (f := fun k => some false) (fun k => ?_) (Ev.now _)
    simp only [sedimentref30_can.j0]
    rfl
end Go.Proofs.YtmjneidcdeeafaaDoor.Pure
