-- LAID BY myprint.sh (a print with contracts of one's own beside it). Not trusted: Lean checks it.
import Derived.Test.YtmjneidcdeeafaaDoorQPx0
namespace Go.Proofs.YtmjneidcdeeafaaDoor.QP
open Go.RowKit Go.Proofs.YtmjneidcdeeafaaDoorW.PrintWords Go.Proofs.YtmjneidcdeeafaaDoorW.PrintLast Go.Proofs.YtmjneidcdeeafaaDoorW.PrintMore
attribute [local go_sem] max2_int min2_int max_two min_two max_three min_three max_four min_four   -- for this text's walks alone
set_option linter.unusedVariables false
set_option linter.unusedSimpArgs false

/-! ### sedimentref30_Shape: function 12 -/
mutual
def sedimentref30_Shape.j0 : Nat → ByteArray → Bool → Option (ByteArray × Bool)
  | 0, _, _ => none
  | k + 1, x4, x5 => if x5 = true then (some ((⟨#[]⟩ : ByteArray), true)) else (if x4.toList = ([111, 112, 101, 110] : List UInt8) then (sedimentref30_Shape.j1 k x4 (x4.toList == ([111, 112, 101, 110] : List UInt8))) else (if x4.toList = ([100, 114, 111, 112] : List UInt8) then (sedimentref30_Shape.j1 k x4 (x4.toList == ([100, 114, 111, 112] : List UInt8))) else (if x4.toList = ([102, 114, 101, 101] : List UInt8) then (sedimentref30_Shape.j1 k x4 (x4.toList == ([102, 114, 101, 101] : List UInt8))) else (if x4.toList = ([102, 108, 117, 115, 104] : List UInt8) then (sedimentref30_Shape.j1 k x4 (x4.toList == ([102, 108, 117, 115, 104] : List UInt8))) else (sedimentref30_Shape.j1 k x4 (x4.toList == ([108, 111, 115, 101] : List UInt8)))))))
def sedimentref30_Shape.j1 : Nat → ByteArray → Bool → Option (ByteArray × Bool)
  | 0, _, _ => none
  | k + 1, x4, x18 => if x18 = true then (some ((⟨#[68]⟩ : ByteArray), true)) else (if x4.toList = ([109, 97, 114, 107] : List UInt8) then (sedimentref30_Shape.j2 k x4 (x4.toList == ([109, 97, 114, 107] : List UInt8))) else (sedimentref30_Shape.j2 k x4 (x4.toList == ([115, 101, 101] : List UInt8))))
def sedimentref30_Shape.j2 : Nat → ByteArray → Bool → Option (ByteArray × Bool)
  | 0, _, _ => none
  | k + 1, x4, x24 => if x24 = true then (some ((⟨#[78]⟩ : ByteArray), true)) else (if x4.toList = ([109, 97, 107, 101] : List UInt8) then (some ((⟨#[78, 68]⟩ : ByteArray), true)) else (if x4.toList = ([115, 99, 97, 110] : List UInt8) then (sedimentref30_Shape.j3 k x4 (x4.toList == ([115, 99, 97, 110] : List UInt8))) else (sedimentref30_Shape.j3 k x4 (x4.toList == ([98, 97, 99, 107] : List UInt8)))))
def sedimentref30_Shape.j3 : Nat → ByteArray → Bool → Option (ByteArray × Bool)
  | 0, _, _ => none
  | k + 1, x4, x29 => if x29 = true then (some ((⟨#[68, 68]⟩ : ByteArray), true)) else (if x4.toList = ([100, 101, 108] : List UInt8) then (sedimentref30_Shape.j4 k x4 (x4.toList == ([100, 101, 108] : List UInt8))) else (if x4.toList = ([99, 117, 116] : List UInt8) then (sedimentref30_Shape.j4 k x4 (x4.toList == ([99, 117, 116] : List UInt8))) else (if x4.toList = ([114, 101, 97, 100] : List UInt8) then (sedimentref30_Shape.j4 k x4 (x4.toList == ([114, 101, 97, 100] : List UInt8))) else (if x4.toList = ([117, 110, 115, 101, 116] : List UInt8) then (sedimentref30_Shape.j4 k x4 (x4.toList == ([117, 110, 115, 101, 116] : List UInt8))) else (sedimentref30_Shape.j4 k x4 (x4.toList == ([111, 108, 100] : List UInt8)))))))
def sedimentref30_Shape.j4 : Nat → ByteArray → Bool → Option (ByteArray × Bool)
  | 0, _, _ => none
  | k + 1, x4, x32 => if x32 = true then (some ((⟨#[68, 78]⟩ : ByteArray), true)) else (if x4.toList = ([112, 117, 116] : List UInt8) then (sedimentref30_Shape.j5 k x4 (x4.toList == ([112, 117, 116] : List UInt8))) else (if x4.toList = ([114, 97, 110, 103, 101] : List UInt8) then (sedimentref30_Shape.j5 k x4 (x4.toList == ([114, 97, 110, 103, 101] : List UInt8))) else (if x4.toList = ([97, 100, 100] : List UInt8) then (sedimentref30_Shape.j5 k x4 (x4.toList == ([97, 100, 100] : List UInt8))) else (if x4.toList = ([99, 108, 101, 97, 114] : List UInt8) then (sedimentref30_Shape.j5 k x4 (x4.toList == ([99, 108, 101, 97, 114] : List UInt8))) else (if x4.toList = ([99, 111, 109, 112, 97, 99, 116] : List UInt8) then (sedimentref30_Shape.j5 k x4 (x4.toList == ([99, 111, 109, 112, 97, 99, 116] : List UInt8))) else (sedimentref30_Shape.j5 k x4 (x4.toList == ([115, 101, 116] : List UInt8))))))))
def sedimentref30_Shape.j5 : Nat → ByteArray → Bool → Option (ByteArray × Bool)
  | 0, _, _ => none
  | k + 1, x4, x38 => if x38 = true then (some ((⟨#[68, 78, 78]⟩ : ByteArray), true)) else (if x4.toList = ([103, 101, 116] : List UInt8) then (some ((⟨#[68, 78, 68]⟩ : ByteArray), true)) else (if x4.toList = ([116, 97, 107, 101] : List UInt8) then (some ((⟨#[68, 78, 78, 78, 78]⟩ : ByteArray), true)) else (some ((⟨#[]⟩ : ByteArray), false))))
end
def sedimentref30_Shape.f (k : Nat) (a0 : ByteArray) : Option (ByteArray × Bool) := if a0.toList = ([119, 114, 105, 116, 101] : List UInt8) then (sedimentref30_Shape.j0 k a0 (a0.toList == ([119, 114, 105, 116, 101] : List UInt8))) else (if a0.toList = ([102, 111, 114, 103, 101, 116] : List UInt8) then (sedimentref30_Shape.j0 k a0 (a0.toList == ([102, 111, 114, 103, 101, 116] : List UInt8))) else (if a0.toList = ([104, 111, 108, 100] : List UInt8) then (sedimentref30_Shape.j0 k a0 (a0.toList == ([104, 111, 108, 100] : List UInt8))) else (if a0.toList = ([115, 116, 101, 112] : List UInt8) then (sedimentref30_Shape.j0 k a0 (a0.toList == ([115, 116, 101, 112] : List UInt8))) else (if a0.toList = ([108, 97, 115, 116] : List UInt8) then (sedimentref30_Shape.j0 k a0 (a0.toList == ([108, 97, 115, 116] : List UInt8))) else (if a0.toList = ([102, 97, 109, 105, 108, 105, 101, 115] : List UInt8) then (sedimentref30_Shape.j0 k a0 (a0.toList == ([102, 97, 109, 105, 108, 105, 101, 115] : List UInt8))) else (if a0.toList = ([98, 101, 103, 105, 110] : List UInt8) then (sedimentref30_Shape.j0 k a0 (a0.toList == ([98, 101, 103, 105, 110] : List UInt8))) else (if a0.toList = ([99, 111, 109, 109, 105, 116] : List UInt8) then (sedimentref30_Shape.j0 k a0 (a0.toList == ([99, 111, 109, 109, 105, 116] : List UInt8))) else (if a0.toList = ([97, 98, 111, 114, 116] : List UInt8) then (sedimentref30_Shape.j0 k a0 (a0.toList == ([97, 98, 111, 114, 116] : List UInt8))) else (if a0.toList = ([115, 97, 118, 101] : List UInt8) then (sedimentref30_Shape.j0 k a0 (a0.toList == ([115, 97, 118, 101] : List UInt8))) else (if a0.toList = ([99, 114, 97, 115, 104] : List UInt8) then (sedimentref30_Shape.j0 k a0 (a0.toList == ([99, 114, 97, 115, 104] : List UInt8))) else (sedimentref30_Shape.j0 k a0 (a0.toList == ([99, 104, 101, 99, 107] : List UInt8)))))))))))))
theorem sedimentref30_Shape.mono_l : ∀ k, (∀ y0 y1, LeO (sedimentref30_Shape.j0 k y0 y1) (sedimentref30_Shape.j0 (k + 1) y0 y1)) ∧ (∀ y0 y1, LeO (sedimentref30_Shape.j1 k y0 y1) (sedimentref30_Shape.j1 (k + 1) y0 y1)) ∧ (∀ y0 y1, LeO (sedimentref30_Shape.j2 k y0 y1) (sedimentref30_Shape.j2 (k + 1) y0 y1)) ∧ (∀ y0 y1, LeO (sedimentref30_Shape.j3 k y0 y1) (sedimentref30_Shape.j3 (k + 1) y0 y1)) ∧ (∀ y0 y1, LeO (sedimentref30_Shape.j4 k y0 y1) (sedimentref30_Shape.j4 (k + 1) y0 y1)) ∧ (∀ y0 y1, LeO (sedimentref30_Shape.j5 k y0 y1) (sedimentref30_Shape.j5 (k + 1) y0 y1))
  | 0 => ⟨fun _ _ r h => by simp [sedimentref30_Shape.j0] at h, fun _ _ r h => by simp [sedimentref30_Shape.j1] at h, fun _ _ r h => by simp [sedimentref30_Shape.j2] at h, fun _ _ r h => by simp [sedimentref30_Shape.j3] at h, fun _ _ r h => by simp [sedimentref30_Shape.j4] at h, fun _ _ r h => by simp [sedimentref30_Shape.j5] at h⟩
  | k + 1 => by
    obtain ⟨ih0, ih1, ih2, ih3, ih4, ih5⟩ := sedimentref30_Shape.mono_l k
    refine ⟨?_, ?_, ?_, ?_, ?_, ?_⟩
    · intro y0 y1
      unfold sedimentref30_Shape.j0
      repeat' first
      | (with_reducible exact ih0 _ _)
      | (with_reducible exact ih1 _ _)
      | (with_reducible exact ih2 _ _)
      | (with_reducible exact ih3 _ _)
      | (with_reducible exact ih4 _ _)
      | (with_reducible exact ih5 _ _)
      | (with_reducible exact LeO.refl _)
      | (with_reducible exact LeO.none _)
      | (with_reducible refine LeO.ite ?_ ?_)
      | (with_reducible refine LeO.bind ?_ (fun _ => ?_))
      | exact ih0 _ _
      | exact ih1 _ _
      | exact ih2 _ _
      | exact ih3 _ _
      | exact ih4 _ _
      | exact ih5 _ _
      | exact LeO.none _
      | refine LeO.ite ?_ ?_
      | refine LeO.bind ?_ (fun _ => ?_)
    · intro y0 y1
      unfold sedimentref30_Shape.j1
      repeat' first
      | (with_reducible exact ih0 _ _)
      | (with_reducible exact ih1 _ _)
      | (with_reducible exact ih2 _ _)
      | (with_reducible exact ih3 _ _)
      | (with_reducible exact ih4 _ _)
      | (with_reducible exact ih5 _ _)
      | (with_reducible exact LeO.refl _)
      | (with_reducible exact LeO.none _)
      | (with_reducible refine LeO.ite ?_ ?_)
      | (with_reducible refine LeO.bind ?_ (fun _ => ?_))
      | exact ih0 _ _
      | exact ih1 _ _
      | exact ih2 _ _
      | exact ih3 _ _
      | exact ih4 _ _
      | exact ih5 _ _
      | exact LeO.none _
      | refine LeO.ite ?_ ?_
      | refine LeO.bind ?_ (fun _ => ?_)
    · intro y0 y1
      unfold sedimentref30_Shape.j2
      repeat' first
      | (with_reducible exact ih0 _ _)
      | (with_reducible exact ih1 _ _)
      | (with_reducible exact ih2 _ _)
      | (with_reducible exact ih3 _ _)
      | (with_reducible exact ih4 _ _)
      | (with_reducible exact ih5 _ _)
      | (with_reducible exact LeO.refl _)
      | (with_reducible exact LeO.none _)
      | (with_reducible refine LeO.ite ?_ ?_)
      | (with_reducible refine LeO.bind ?_ (fun _ => ?_))
      | exact ih0 _ _
      | exact ih1 _ _
      | exact ih2 _ _
      | exact ih3 _ _
      | exact ih4 _ _
      | exact ih5 _ _
      | exact LeO.none _
      | refine LeO.ite ?_ ?_
      | refine LeO.bind ?_ (fun _ => ?_)
    · intro y0 y1
      unfold sedimentref30_Shape.j3
      repeat' first
      | (with_reducible exact ih0 _ _)
      | (with_reducible exact ih1 _ _)
      | (with_reducible exact ih2 _ _)
      | (with_reducible exact ih3 _ _)
      | (with_reducible exact ih4 _ _)
      | (with_reducible exact ih5 _ _)
      | (with_reducible exact LeO.refl _)
      | (with_reducible exact LeO.none _)
      | (with_reducible refine LeO.ite ?_ ?_)
      | (with_reducible refine LeO.bind ?_ (fun _ => ?_))
      | exact ih0 _ _
      | exact ih1 _ _
      | exact ih2 _ _
      | exact ih3 _ _
      | exact ih4 _ _
      | exact ih5 _ _
      | exact LeO.none _
      | refine LeO.ite ?_ ?_
      | refine LeO.bind ?_ (fun _ => ?_)
    · intro y0 y1
      unfold sedimentref30_Shape.j4
      repeat' first
      | (with_reducible exact ih0 _ _)
      | (with_reducible exact ih1 _ _)
      | (with_reducible exact ih2 _ _)
      | (with_reducible exact ih3 _ _)
      | (with_reducible exact ih4 _ _)
      | (with_reducible exact ih5 _ _)
      | (with_reducible exact LeO.refl _)
      | (with_reducible exact LeO.none _)
      | (with_reducible refine LeO.ite ?_ ?_)
      | (with_reducible refine LeO.bind ?_ (fun _ => ?_))
      | exact ih0 _ _
      | exact ih1 _ _
      | exact ih2 _ _
      | exact ih3 _ _
      | exact ih4 _ _
      | exact ih5 _ _
      | exact LeO.none _
      | refine LeO.ite ?_ ?_
      | refine LeO.bind ?_ (fun _ => ?_)
    · intro y0 y1
      unfold sedimentref30_Shape.j5
      repeat' first
      | (with_reducible exact ih0 _ _)
      | (with_reducible exact ih1 _ _)
      | (with_reducible exact ih2 _ _)
      | (with_reducible exact ih3 _ _)
      | (with_reducible exact ih4 _ _)
      | (with_reducible exact ih5 _ _)
      | (with_reducible exact LeO.refl _)
      | (with_reducible exact LeO.none _)
      | (with_reducible refine LeO.ite ?_ ?_)
      | (with_reducible refine LeO.bind ?_ (fun _ => ?_))
      | exact ih0 _ _
      | exact ih1 _ _
      | exact ih2 _ _
      | exact ih3 _ _
      | exact ih4 _ _
      | exact ih5 _ _
      | exact LeO.none _
      | refine LeO.ite ?_ ?_
      | refine LeO.bind ?_ (fun _ => ?_)
theorem sedimentref30_Shape.mono : ∀ a0 k, LeO (sedimentref30_Shape.f k a0) (sedimentref30_Shape.f (k + 1) a0) := by
  intro a0 k
  obtain ⟨ih0, ih1, ih2, ih3, ih4, ih5⟩ := sedimentref30_Shape.mono_l k
  unfold sedimentref30_Shape.f
  repeat' first
      | (with_reducible exact ih0 _ _)
      | (with_reducible exact ih1 _ _)
      | (with_reducible exact ih2 _ _)
      | (with_reducible exact ih3 _ _)
      | (with_reducible exact ih4 _ _)
      | (with_reducible exact ih5 _ _)
      | (with_reducible exact LeO.refl _)
      | (with_reducible exact LeO.none _)
      | (with_reducible refine LeO.ite ?_ ?_)
      | (with_reducible refine LeO.bind ?_ (fun _ => ?_))
      | exact ih0 _ _
      | exact ih1 _ _
      | exact ih2 _ _
      | exact ih3 _ _
      | exact ih4 _ _
      | exact ih5 _ _
      | exact LeO.none _
      | refine LeO.ite ?_ ?_
      | refine LeO.bind ?_ (fun _ => ?_)
set_option maxHeartbeats 8000000 in
set_option maxRecDepth 100000 in
theorem sedimentref30_Shape.calls (k : Nat) (a0 : ByteArray) (r1 : ByteArray) (r2 : Bool) (w : World) (h : sedimentref30_Shape.f k a0 = some (r1, r2)) :
    Calls Tryd.prog 12 #[.string a0] w fun e w' => e = .returned (.tuple #[.string r1, .bool r2]) ∧ Drawn0 w w' := by
  have H : (if a0.toList = ([119, 114, 105, 116, 101] : List UInt8) then (sedimentref30_Shape.j0 k a0 (a0.toList == ([119, 114, 105, 116, 101] : List UInt8))) else (if a0.toList = ([102, 111, 114, 103, 101, 116] : List UInt8) then (sedimentref30_Shape.j0 k a0 (a0.toList == ([102, 111, 114, 103, 101, 116] : List UInt8))) else (if a0.toList = ([104, 111, 108, 100] : List UInt8) then (sedimentref30_Shape.j0 k a0 (a0.toList == ([104, 111, 108, 100] : List UInt8))) else (if a0.toList = ([115, 116, 101, 112] : List UInt8) then (sedimentref30_Shape.j0 k a0 (a0.toList == ([115, 116, 101, 112] : List UInt8))) else (if a0.toList = ([108, 97, 115, 116] : List UInt8) then (sedimentref30_Shape.j0 k a0 (a0.toList == ([108, 97, 115, 116] : List UInt8))) else (if a0.toList = ([102, 97, 109, 105, 108, 105, 101, 115] : List UInt8) then (sedimentref30_Shape.j0 k a0 (a0.toList == ([102, 97, 109, 105, 108, 105, 101, 115] : List UInt8))) else (if a0.toList = ([98, 101, 103, 105, 110] : List UInt8) then (sedimentref30_Shape.j0 k a0 (a0.toList == ([98, 101, 103, 105, 110] : List UInt8))) else (if a0.toList = ([99, 111, 109, 109, 105, 116] : List UInt8) then (sedimentref30_Shape.j0 k a0 (a0.toList == ([99, 111, 109, 109, 105, 116] : List UInt8))) else (if a0.toList = ([97, 98, 111, 114, 116] : List UInt8) then (sedimentref30_Shape.j0 k a0 (a0.toList == ([97, 98, 111, 114, 116] : List UInt8))) else (if a0.toList = ([115, 97, 118, 101] : List UInt8) then (sedimentref30_Shape.j0 k a0 (a0.toList == ([115, 97, 118, 101] : List UInt8))) else (if a0.toList = ([99, 114, 97, 115, 104] : List UInt8) then (sedimentref30_Shape.j0 k a0 (a0.toList == ([99, 114, 97, 115, 104] : List UInt8))) else (sedimentref30_Shape.j0 k a0 (a0.toList == ([99, 104, 101, 99, 107] : List UInt8)))))))))))))) = some (r1, r2) := h
  clear h
  have HC2 := Aside0.mk H
  clear H
  go_enter Tryd.func12, Tryd.ntmps12
  go_upto_if 5 with (fail)
  go_cut [5] (fun v5 wc => ∃ (kq : Nat) (x5_1 : Bool), v5 = .bool x5_1 ∧ Aside0 (sedimentref30_Shape.j0 kq a0 x5_1 = some (r1, r2)) ∧ Aside0 (kq ≤ k) ∧ Drawn0 w wc)
  case first =>
    have H := HC2.out
    clear HC2
    by_cases c3 : a0.toList = ([119, 114, 105, 116, 101] : List UInt8)
    · rw [if_pos c3] at H
      have c3b0 : (a0.toList == ([119, 114, 105, 116, 101] : List UInt8)) = true := beq_iff_eq.mpr c3
      have c3b1 : (a0.toList != ([119, 114, 105, 116, 101] : List UInt8)) = false := bne_eq_false_iff_eq.mpr c3
      clear c3
      (first | rw [c3b0] | (simp only [i64_w, i32_w]; rw [c3b0]) | skip)
      have H' := Aside0.mk H
      clear H
      go_wp2
      go_meet
      case rel => exact ⟨_, ((a0.toList == ([119, 114, 105, 116, 101] : List UInt8))), (by first | rfl | (simp; done) | (simp [*]; done)), H', ⟨by first | omega | exact Nat.le_refl _⟩, by repeat (first | exact Drawn0.refl _ | apply Drawn0.step)⟩
    · rw [if_neg c3] at H
      have c3b0 : (a0.toList == ([119, 114, 105, 116, 101] : List UInt8)) = false := beq_eq_false_iff_ne.mpr c3
      have c3b1 : (a0.toList != ([119, 114, 105, 116, 101] : List UInt8)) = true := bne_iff_ne.mpr c3
      (first | rw [c3b0] | (simp only [i64_w, i32_w]; rw [c3b0]) | skip)
      by_cases c4 : a0.toList = ([102, 111, 114, 103, 101, 116] : List UInt8)
      · rw [if_pos c4] at H
        have c4b0 : (a0.toList == ([102, 111, 114, 103, 101, 116] : List UInt8)) = true := beq_iff_eq.mpr c4
        have c4b1 : (a0.toList != ([102, 111, 114, 103, 101, 116] : List UInt8)) = false := bne_eq_false_iff_eq.mpr c4
        clear c4
        have H' := Aside0.mk H
        clear H
        go_wp2
        go_meet
        case rel => exact ⟨_, ((a0.toList == ([102, 111, 114, 103, 101, 116] : List UInt8))), (by first | rfl | (simp; done) | (simp [*]; done)), H', ⟨by first | omega | exact Nat.le_refl _⟩, by repeat (first | exact Drawn0.refl _ | apply Drawn0.step)⟩
      · rw [if_neg c4] at H
        have c4b0 : (a0.toList == ([102, 111, 114, 103, 101, 116] : List UInt8)) = false := beq_eq_false_iff_ne.mpr c4
        have c4b1 : (a0.toList != ([102, 111, 114, 103, 101, 116] : List UInt8)) = true := bne_iff_ne.mpr c4
        by_cases c5 : a0.toList = ([104, 111, 108, 100] : List UInt8)
        · rw [if_pos c5] at H
          have c5b0 : (a0.toList == ([104, 111, 108, 100] : List UInt8)) = true := beq_iff_eq.mpr c5
          have c5b1 : (a0.toList != ([104, 111, 108, 100] : List UInt8)) = false := bne_eq_false_iff_eq.mpr c5
          clear c5
          have H' := Aside0.mk H
          clear H
          go_wp2
          go_meet
          case rel => exact ⟨_, ((a0.toList == ([104, 111, 108, 100] : List UInt8))), (by first | rfl | (simp; done) | (simp [*]; done)), H', ⟨by first | omega | exact Nat.le_refl _⟩, by repeat (first | exact Drawn0.refl _ | apply Drawn0.step)⟩
        · rw [if_neg c5] at H
          have c5b0 : (a0.toList == ([104, 111, 108, 100] : List UInt8)) = false := beq_eq_false_iff_ne.mpr c5
          have c5b1 : (a0.toList != ([104, 111, 108, 100] : List UInt8)) = true := bne_iff_ne.mpr c5
          by_cases c6 : a0.toList = ([115, 116, 101, 112] : List UInt8)
          · rw [if_pos c6] at H
            have c6b0 : (a0.toList == ([115, 116, 101, 112] : List UInt8)) = true := beq_iff_eq.mpr c6
            have c6b1 : (a0.toList != ([115, 116, 101, 112] : List UInt8)) = false := bne_eq_false_iff_eq.mpr c6
            clear c6
            have H' := Aside0.mk H
            clear H
            go_wp2
            go_meet
            case rel => exact ⟨_, ((a0.toList == ([115, 116, 101, 112] : List UInt8))), (by first | rfl | (simp; done) | (simp [*]; done)), H', ⟨by first | omega | exact Nat.le_refl _⟩, by repeat (first | exact Drawn0.refl _ | apply Drawn0.step)⟩
          · rw [if_neg c6] at H
            have c6b0 : (a0.toList == ([115, 116, 101, 112] : List UInt8)) = false := beq_eq_false_iff_ne.mpr c6
            have c6b1 : (a0.toList != ([115, 116, 101, 112] : List UInt8)) = true := bne_iff_ne.mpr c6
            by_cases c7 : a0.toList = ([108, 97, 115, 116] : List UInt8)
            · rw [if_pos c7] at H
              have c7b0 : (a0.toList == ([108, 97, 115, 116] : List UInt8)) = true := beq_iff_eq.mpr c7
              have c7b1 : (a0.toList != ([108, 97, 115, 116] : List UInt8)) = false := bne_eq_false_iff_eq.mpr c7
              clear c7
              have H' := Aside0.mk H
              clear H
              go_wp2
              go_meet
              case rel => exact ⟨_, ((a0.toList == ([108, 97, 115, 116] : List UInt8))), (by first | rfl | (simp; done) | (simp [*]; done)), H', ⟨by first | omega | exact Nat.le_refl _⟩, by repeat (first | exact Drawn0.refl _ | apply Drawn0.step)⟩
            · rw [if_neg c7] at H
              have c7b0 : (a0.toList == ([108, 97, 115, 116] : List UInt8)) = false := beq_eq_false_iff_ne.mpr c7
              have c7b1 : (a0.toList != ([108, 97, 115, 116] : List UInt8)) = true := bne_iff_ne.mpr c7
              by_cases c8 : a0.toList = ([102, 97, 109, 105, 108, 105, 101, 115] : List UInt8)
              · rw [if_pos c8] at H
                have c8b0 : (a0.toList == ([102, 97, 109, 105, 108, 105, 101, 115] : List UInt8)) = true := beq_iff_eq.mpr c8
                have c8b1 : (a0.toList != ([102, 97, 109, 105, 108, 105, 101, 115] : List UInt8)) = false := bne_eq_false_iff_eq.mpr c8
                clear c8
                have H' := Aside0.mk H
                clear H
                go_wp2
                go_meet
                case rel => exact ⟨_, ((a0.toList == ([102, 97, 109, 105, 108, 105, 101, 115] : List UInt8))), (by first | rfl | (simp; done) | (simp [*]; done)), H', ⟨by first | omega | exact Nat.le_refl _⟩, by repeat (first | exact Drawn0.refl _ | apply Drawn0.step)⟩
              · rw [if_neg c8] at H
                have c8b0 : (a0.toList == ([102, 97, 109, 105, 108, 105, 101, 115] : List UInt8)) = false := beq_eq_false_iff_ne.mpr c8
                have c8b1 : (a0.toList != ([102, 97, 109, 105, 108, 105, 101, 115] : List UInt8)) = true := bne_iff_ne.mpr c8
                by_cases c9 : a0.toList = ([98, 101, 103, 105, 110] : List UInt8)
                · rw [if_pos c9] at H
                  have c9b0 : (a0.toList == ([98, 101, 103, 105, 110] : List UInt8)) = true := beq_iff_eq.mpr c9
                  have c9b1 : (a0.toList != ([98, 101, 103, 105, 110] : List UInt8)) = false := bne_eq_false_iff_eq.mpr c9
                  clear c9
                  have H' := Aside0.mk H
                  clear H
                  go_wp2
                  go_meet
                  case rel => exact ⟨_, ((a0.toList == ([98, 101, 103, 105, 110] : List UInt8))), (by first | rfl | (simp; done) | (simp [*]; done)), H', ⟨by first | omega | exact Nat.le_refl _⟩, by repeat (first | exact Drawn0.refl _ | apply Drawn0.step)⟩
                · rw [if_neg c9] at H
                  have c9b0 : (a0.toList == ([98, 101, 103, 105, 110] : List UInt8)) = false := beq_eq_false_iff_ne.mpr c9
                  have c9b1 : (a0.toList != ([98, 101, 103, 105, 110] : List UInt8)) = true := bne_iff_ne.mpr c9
                  by_cases c10 : a0.toList = ([99, 111, 109, 109, 105, 116] : List UInt8)
                  · rw [if_pos c10] at H
                    have c10b0 : (a0.toList == ([99, 111, 109, 109, 105, 116] : List UInt8)) = true := beq_iff_eq.mpr c10
                    have c10b1 : (a0.toList != ([99, 111, 109, 109, 105, 116] : List UInt8)) = false := bne_eq_false_iff_eq.mpr c10
                    clear c10
                    have H' := Aside0.mk H
                    clear H
                    go_wp2
                    go_meet
                    case rel => exact ⟨_, ((a0.toList == ([99, 111, 109, 109, 105, 116] : List UInt8))), (by first | rfl | (simp; done) | (simp [*]; done)), H', ⟨by first | omega | exact Nat.le_refl _⟩, by repeat (first | exact Drawn0.refl _ | apply Drawn0.step)⟩
                  · rw [if_neg c10] at H
                    have c10b0 : (a0.toList == ([99, 111, 109, 109, 105, 116] : List UInt8)) = false := beq_eq_false_iff_ne.mpr c10
                    have c10b1 : (a0.toList != ([99, 111, 109, 109, 105, 116] : List UInt8)) = true := bne_iff_ne.mpr c10
                    by_cases c11 : a0.toList = ([97, 98, 111, 114, 116] : List UInt8)
                    · rw [if_pos c11] at H
                      have c11b0 : (a0.toList == ([97, 98, 111, 114, 116] : List UInt8)) = true := beq_iff_eq.mpr c11
                      have c11b1 : (a0.toList != ([97, 98, 111, 114, 116] : List UInt8)) = false := bne_eq_false_iff_eq.mpr c11
                      clear c11
                      have H' := Aside0.mk H
                      clear H
                      go_wp2
                      go_meet
                      case rel => exact ⟨_, ((a0.toList == ([97, 98, 111, 114, 116] : List UInt8))), (by first | rfl | (simp; done) | (simp [*]; done)), H', ⟨by first | omega | exact Nat.le_refl _⟩, by repeat (first | exact Drawn0.refl _ | apply Drawn0.step)⟩
                    · rw [if_neg c11] at H
                      have c11b0 : (a0.toList == ([97, 98, 111, 114, 116] : List UInt8)) = false := beq_eq_false_iff_ne.mpr c11
                      have c11b1 : (a0.toList != ([97, 98, 111, 114, 116] : List UInt8)) = true := bne_iff_ne.mpr c11
                      by_cases c12 : a0.toList = ([115, 97, 118, 101] : List UInt8)
                      · rw [if_pos c12] at H
                        have c12b0 : (a0.toList == ([115, 97, 118, 101] : List UInt8)) = true := beq_iff_eq.mpr c12
                        have c12b1 : (a0.toList != ([115, 97, 118, 101] : List UInt8)) = false := bne_eq_false_iff_eq.mpr c12
                        clear c12
                        have H' := Aside0.mk H
                        clear H
                        go_wp2
                        go_meet
                        case rel => exact ⟨_, ((a0.toList == ([115, 97, 118, 101] : List UInt8))), (by first | rfl | (simp; done) | (simp [*]; done)), H', ⟨by first | omega | exact Nat.le_refl _⟩, by repeat (first | exact Drawn0.refl _ | apply Drawn0.step)⟩
                      · rw [if_neg c12] at H
                        have c12b0 : (a0.toList == ([115, 97, 118, 101] : List UInt8)) = false := beq_eq_false_iff_ne.mpr c12
                        have c12b1 : (a0.toList != ([115, 97, 118, 101] : List UInt8)) = true := bne_iff_ne.mpr c12
                        by_cases c13 : a0.toList = ([99, 114, 97, 115, 104] : List UInt8)
                        · rw [if_pos c13] at H
                          have c13b0 : (a0.toList == ([99, 114, 97, 115, 104] : List UInt8)) = true := beq_iff_eq.mpr c13
                          have c13b1 : (a0.toList != ([99, 114, 97, 115, 104] : List UInt8)) = false := bne_eq_false_iff_eq.mpr c13
                          clear c13
                          have H' := Aside0.mk H
                          clear H
                          go_wp2
                          go_meet
                          case rel => exact ⟨_, ((a0.toList == ([99, 114, 97, 115, 104] : List UInt8))), (by first | rfl | (simp; done) | (simp [*]; done)), H', ⟨by first | omega | exact Nat.le_refl _⟩, by repeat (first | exact Drawn0.refl _ | apply Drawn0.step)⟩
                        · rw [if_neg c13] at H
                          have c13b0 : (a0.toList == ([99, 114, 97, 115, 104] : List UInt8)) = false := beq_eq_false_iff_ne.mpr c13
                          have c13b1 : (a0.toList != ([99, 114, 97, 115, 104] : List UInt8)) = true := bne_iff_ne.mpr c13
                          have H' := Aside0.mk H
                          clear H
                          go_wp2
                          go_meet
                          case rel => exact ⟨_, ((a0.toList == ([99, 104, 101, 99, 107] : List UInt8))), (by first | rfl | (simp; done) | (simp [*]; done)), H', ⟨by first | omega | exact Nat.le_refl _⟩, by repeat (first | exact Drawn0.refl _ | apply Drawn0.step)⟩
  case rest =>
    clear HC2
    try clear c1
    try clear p2
    try clear c3
    try clear c3b0
    try clear c3b1
    try clear c4
    try clear c4b0
    try clear c4b1
    try clear c5
    try clear c5b0
    try clear c5b1
    try clear c6
    try clear c6b0
    try clear c6b1
    try clear c7
    try clear c7b0
    try clear c7b1
    try clear c8
    try clear c8b0
    try clear c8b1
    try clear c9
    try clear c9b0
    try clear c9b1
    try clear c10
    try clear c10b0
    try clear c10b1
    try clear c11
    try clear c11b0
    try clear c11b1
    try clear c12
    try clear c12b0
    try clear c12b1
    try clear c13
    try clear c13b0
    try clear c13b1
    obtain ⟨kq, x5_1, rfl, HA, HJ1, ⟨mc1, rfl⟩⟩ := hcut
    cases kq with
    | zero => exact absurd HA.out (by simp [sedimentref30_Shape.j0])
    | succ kj1 =>
      have H := HA.out
      clear HA
      simp only [sedimentref30_Shape.j0] at H
      by_cases c14 : x5_1 = true
      · subst c14
        have H1 : (some ((⟨#[]⟩ : ByteArray), true)) = some (r1, r2) := by rw [if_pos rfl] at H; exact H
        clear H
        have H := H1
        clear H1
        simp only [Option.some.injEq, Prod.mk.injEq] at H
        obtain ⟨rfl, rfl⟩ := H
        go_wp2
        go_ret2
        exact ⟨by first | rfl | (simp; done) | (simp [*]; done), by repeat (first | exact Drawn0.refl _ | apply Drawn0.step)⟩
      · replace c14 := Bool.eq_false_iff.mpr c14
        subst c14
        have H1 : (if a0.toList = ([111, 112, 101, 110] : List UInt8) then (sedimentref30_Shape.j1 kj1 a0 (a0.toList == ([111, 112, 101, 110] : List UInt8))) else (if a0.toList = ([100, 114, 111, 112] : List UInt8) then (sedimentref30_Shape.j1 kj1 a0 (a0.toList == ([100, 114, 111, 112] : List UInt8))) else (if a0.toList = ([102, 114, 101, 101] : List UInt8) then (sedimentref30_Shape.j1 kj1 a0 (a0.toList == ([102, 114, 101, 101] : List UInt8))) else (if a0.toList = ([102, 108, 117, 115, 104] : List UInt8) then (sedimentref30_Shape.j1 kj1 a0 (a0.toList == ([102, 108, 117, 115, 104] : List UInt8))) else (sedimentref30_Shape.j1 kj1 a0 (a0.toList == ([108, 111, 115, 101] : List UInt8))))))) = some (r1, r2) := by rw [if_neg (show ¬ (false = true) by decide)] at H; exact H
        clear H
        have H := H1
        clear H1
        have HC15 := Aside0.mk H
        clear H
        go_upto_if 18 with (fail)
        go_cut [18] (fun v18 wc => ∃ (kq : Nat) (x18_14 : Bool), v18 = .bool x18_14 ∧ Aside0 (sedimentref30_Shape.j1 kq a0 x18_14 = some (r1, r2)) ∧ Aside0 (kq ≤ kj1) ∧ Drawn0 w wc)
        case first =>
          have H := HC15.out
          clear HC15
          by_cases c16 : a0.toList = ([111, 112, 101, 110] : List UInt8)
          · rw [if_pos c16] at H
            have c16b0 : (a0.toList == ([111, 112, 101, 110] : List UInt8)) = true := beq_iff_eq.mpr c16
            have c16b1 : (a0.toList != ([111, 112, 101, 110] : List UInt8)) = false := bne_eq_false_iff_eq.mpr c16
            clear c16
            (first | rw [c16b0] | (simp only [i64_w, i32_w]; rw [c16b0]) | skip)
            have H' := Aside0.mk H
            clear H
            go_wp2
            go_meet
            case rel => exact ⟨_, ((a0.toList == ([111, 112, 101, 110] : List UInt8))), (by first | rfl | (simp; done) | (simp [*]; done)), H', ⟨by have := HJ1.out; first | omega | exact Nat.le_refl _⟩, by repeat (first | exact Drawn0.refl _ | apply Drawn0.step)⟩
          · rw [if_neg c16] at H
            have c16b0 : (a0.toList == ([111, 112, 101, 110] : List UInt8)) = false := beq_eq_false_iff_ne.mpr c16
            have c16b1 : (a0.toList != ([111, 112, 101, 110] : List UInt8)) = true := bne_iff_ne.mpr c16
            (first | rw [c16b0] | (simp only [i64_w, i32_w]; rw [c16b0]) | skip)
            by_cases c17 : a0.toList = ([100, 114, 111, 112] : List UInt8)
            · rw [if_pos c17] at H
              have c17b0 : (a0.toList == ([100, 114, 111, 112] : List UInt8)) = true := beq_iff_eq.mpr c17
              have c17b1 : (a0.toList != ([100, 114, 111, 112] : List UInt8)) = false := bne_eq_false_iff_eq.mpr c17
              clear c17
              have H' := Aside0.mk H
              clear H
              go_wp2
              go_meet
              case rel => exact ⟨_, ((a0.toList == ([100, 114, 111, 112] : List UInt8))), (by first | rfl | (simp; done) | (simp [*]; done)), H', ⟨by have := HJ1.out; first | omega | exact Nat.le_refl _⟩, by repeat (first | exact Drawn0.refl _ | apply Drawn0.step)⟩
            · rw [if_neg c17] at H
              have c17b0 : (a0.toList == ([100, 114, 111, 112] : List UInt8)) = false := beq_eq_false_iff_ne.mpr c17
              have c17b1 : (a0.toList != ([100, 114, 111, 112] : List UInt8)) = true := bne_iff_ne.mpr c17
              by_cases c18 : a0.toList = ([102, 114, 101, 101] : List UInt8)
              · rw [if_pos c18] at H
                have c18b0 : (a0.toList == ([102, 114, 101, 101] : List UInt8)) = true := beq_iff_eq.mpr c18
                have c18b1 : (a0.toList != ([102, 114, 101, 101] : List UInt8)) = false := bne_eq_false_iff_eq.mpr c18
                clear c18
                have H' := Aside0.mk H
                clear H
                go_wp2
                go_meet
                case rel => exact ⟨_, ((a0.toList == ([102, 114, 101, 101] : List UInt8))), (by first | rfl | (simp; done) | (simp [*]; done)), H', ⟨by have := HJ1.out; first | omega | exact Nat.le_refl _⟩, by repeat (first | exact Drawn0.refl _ | apply Drawn0.step)⟩
              · rw [if_neg c18] at H
                have c18b0 : (a0.toList == ([102, 114, 101, 101] : List UInt8)) = false := beq_eq_false_iff_ne.mpr c18
                have c18b1 : (a0.toList != ([102, 114, 101, 101] : List UInt8)) = true := bne_iff_ne.mpr c18
                by_cases c19 : a0.toList = ([102, 108, 117, 115, 104] : List UInt8)
                · rw [if_pos c19] at H
                  have c19b0 : (a0.toList == ([102, 108, 117, 115, 104] : List UInt8)) = true := beq_iff_eq.mpr c19
                  have c19b1 : (a0.toList != ([102, 108, 117, 115, 104] : List UInt8)) = false := bne_eq_false_iff_eq.mpr c19
                  clear c19
                  have H' := Aside0.mk H
                  clear H
                  go_wp2
                  go_meet
                  case rel => exact ⟨_, ((a0.toList == ([102, 108, 117, 115, 104] : List UInt8))), (by first | rfl | (simp; done) | (simp [*]; done)), H', ⟨by have := HJ1.out; first | omega | exact Nat.le_refl _⟩, by repeat (first | exact Drawn0.refl _ | apply Drawn0.step)⟩
                · rw [if_neg c19] at H
                  have c19b0 : (a0.toList == ([102, 108, 117, 115, 104] : List UInt8)) = false := beq_eq_false_iff_ne.mpr c19
                  have c19b1 : (a0.toList != ([102, 108, 117, 115, 104] : List UInt8)) = true := bne_iff_ne.mpr c19
                  have H' := Aside0.mk H
                  clear H
                  go_wp2
                  go_meet
                  case rel => exact ⟨_, ((a0.toList == ([108, 111, 115, 101] : List UInt8))), (by first | rfl | (simp; done) | (simp [*]; done)), H', ⟨by have := HJ1.out; first | omega | exact Nat.le_refl _⟩, by repeat (first | exact Drawn0.refl _ | apply Drawn0.step)⟩
        case rest =>
          clear HC15
          try clear c1
          try clear p2
          try clear c3
          try clear c3b0
          try clear c3b1
          try clear c4
          try clear c4b0
          try clear c4b1
          try clear c5
          try clear c5b0
          try clear c5b1
          try clear c6
          try clear c6b0
          try clear c6b1
          try clear c7
          try clear c7b0
          try clear c7b1
          try clear c8
          try clear c8b0
          try clear c8b1
          try clear c9
          try clear c9b0
          try clear c9b1
          try clear c10
          try clear c10b0
          try clear c10b1
          try clear c11
          try clear c11b0
          try clear c11b1
          try clear c12
          try clear c12b0
          try clear c12b1
          try clear c13
          try clear c13b0
          try clear c13b1
          try clear c14
          try clear c16
          try clear c16b0
          try clear c16b1
          try clear c17
          try clear c17b0
          try clear c17b1
          try clear c18
          try clear c18b0
          try clear c18b1
          try clear c19
          try clear c19b0
          try clear c19b1
          try clear p2
          obtain ⟨kq, x18_14, rfl, HA, HJ14, ⟨mc14, rfl⟩⟩ := hcut
          cases kq with
          | zero => exact absurd HA.out (by simp [sedimentref30_Shape.j1])
          | succ kj14 =>
            have H := HA.out
            clear HA
            simp only [sedimentref30_Shape.j1] at H
            by_cases c20 : x18_14 = true
            · subst c20
              have H1 : (some ((⟨#[68]⟩ : ByteArray), true)) = some (r1, r2) := by rw [if_pos rfl] at H; exact H
              clear H
              have H := H1
              clear H1
              simp only [Option.some.injEq, Prod.mk.injEq] at H
              obtain ⟨rfl, rfl⟩ := H
              go_wp2
              go_ret2
              exact ⟨by first | rfl | (simp; done) | (simp [*]; done), by repeat (first | exact Drawn0.refl _ | apply Drawn0.step)⟩
            · replace c20 := Bool.eq_false_iff.mpr c20
              subst c20
              have H1 : (if a0.toList = ([109, 97, 114, 107] : List UInt8) then (sedimentref30_Shape.j2 kj14 a0 (a0.toList == ([109, 97, 114, 107] : List UInt8))) else (sedimentref30_Shape.j2 kj14 a0 (a0.toList == ([115, 101, 101] : List UInt8)))) = some (r1, r2) := by rw [if_neg (show ¬ (false = true) by decide)] at H; exact H
              clear H
              have H := H1
              clear H1
              have HC21 := Aside0.mk H
              clear H
              go_upto_if 24 with (fail)
              go_cut [24] (fun v24 wc => ∃ (kq : Nat) (x24_20 : Bool), v24 = .bool x24_20 ∧ Aside0 (sedimentref30_Shape.j2 kq a0 x24_20 = some (r1, r2)) ∧ Aside0 (kq ≤ kj14) ∧ Drawn0 w wc)
              case first =>
                have H := HC21.out
                clear HC21
                by_cases c22 : a0.toList = ([109, 97, 114, 107] : List UInt8)
                · rw [if_pos c22] at H
                  have c22b0 : (a0.toList == ([109, 97, 114, 107] : List UInt8)) = true := beq_iff_eq.mpr c22
                  have c22b1 : (a0.toList != ([109, 97, 114, 107] : List UInt8)) = false := bne_eq_false_iff_eq.mpr c22
                  clear c22
                  (first | rw [c22b0] | (simp only [i64_w, i32_w]; rw [c22b0]) | skip)
                  have H' := Aside0.mk H
                  clear H
                  go_wp2
                  go_meet
                  case rel => exact ⟨_, ((a0.toList == ([109, 97, 114, 107] : List UInt8))), (by first | rfl | (simp; done) | (simp [*]; done)), H', ⟨by have := HJ1.out; have := HJ14.out; first | omega | exact Nat.le_refl _⟩, by repeat (first | exact Drawn0.refl _ | apply Drawn0.step)⟩
                · rw [if_neg c22] at H
                  have c22b0 : (a0.toList == ([109, 97, 114, 107] : List UInt8)) = false := beq_eq_false_iff_ne.mpr c22
                  have c22b1 : (a0.toList != ([109, 97, 114, 107] : List UInt8)) = true := bne_iff_ne.mpr c22
                  (first | rw [c22b0] | (simp only [i64_w, i32_w]; rw [c22b0]) | skip)
                  have H' := Aside0.mk H
                  clear H
                  go_wp2
                  go_meet
                  case rel => exact ⟨_, ((a0.toList == ([115, 101, 101] : List UInt8))), (by first | rfl | (simp; done) | (simp [*]; done)), H', ⟨by have := HJ1.out; have := HJ14.out; first | omega | exact Nat.le_refl _⟩, by repeat (first | exact Drawn0.refl _ | apply Drawn0.step)⟩
              case rest =>
                clear HC21
                try clear c1
                try clear c2
                try clear p2
                try clear c3
                try clear c3b0
                try clear c3b1
                try clear c4
                try clear c4b0
                try clear c4b1
                try clear c5
                try clear c5b0
                try clear c5b1
                try clear c6
                try clear c6b0
                try clear c6b1
                try clear c7
                try clear c7b0
                try clear c7b1
                try clear c8
                try clear c8b0
                try clear c8b1
                try clear c9
                try clear c9b0
                try clear c9b1
                try clear c10
                try clear c10b0
                try clear c10b1
                try clear c11
                try clear c11b0
                try clear c11b1
                try clear c12
                try clear c12b0
                try clear c12b1
                try clear c13
                try clear c13b0
                try clear c13b1
                try clear c14
                try clear c16
                try clear c16b0
                try clear c16b1
                try clear c17
                try clear c17b0
                try clear c17b1
                try clear c18
                try clear c18b0
                try clear c18b1
                try clear c19
                try clear c19b0
                try clear c19b1
                try clear c20
                try clear c22
                try clear c22b0
                try clear c22b1
                try clear p2
                obtain ⟨kq, x24_20, rfl, HA, HJ20, ⟨mc20, rfl⟩⟩ := hcut
                cases kq with
                | zero => exact absurd HA.out (by simp [sedimentref30_Shape.j2])
                | succ kj20 =>
                  have H := HA.out
                  clear HA
                  simp only [sedimentref30_Shape.j2] at H
                  by_cases c23 : x24_20 = true
                  · subst c23
                    have H1 : (some ((⟨#[78]⟩ : ByteArray), true)) = some (r1, r2) := by rw [if_pos rfl] at H; exact H
                    clear H
                    have H := H1
                    clear H1
                    simp only [Option.some.injEq, Prod.mk.injEq] at H
                    obtain ⟨rfl, rfl⟩ := H
                    go_wp2
                    go_ret2
                    exact ⟨by first | rfl | (simp; done) | (simp [*]; done), by repeat (first | exact Drawn0.refl _ | apply Drawn0.step)⟩
                  · replace c23 := Bool.eq_false_iff.mpr c23
                    subst c23
                    have H1 : (if a0.toList = ([109, 97, 107, 101] : List UInt8) then (some ((⟨#[78, 68]⟩ : ByteArray), true)) else (if a0.toList = ([115, 99, 97, 110] : List UInt8) then (sedimentref30_Shape.j3 kj20 a0 (a0.toList == ([115, 99, 97, 110] : List UInt8))) else (sedimentref30_Shape.j3 kj20 a0 (a0.toList == ([98, 97, 99, 107] : List UInt8))))) = some (r1, r2) := by rw [if_neg (show ¬ (false = true) by decide)] at H; exact H
                    clear H
                    have H := H1
                    clear H1
                    by_cases c24 : a0.toList = ([109, 97, 107, 101] : List UInt8)
                    · rw [if_pos c24] at H
                      have c24b0 : (a0.toList == ([109, 97, 107, 101] : List UInt8)) = true := beq_iff_eq.mpr c24
                      have c24b1 : (a0.toList != ([109, 97, 107, 101] : List UInt8)) = false := bne_eq_false_iff_eq.mpr c24
                      clear c24
                      simp only [Option.some.injEq, Prod.mk.injEq] at H
                      obtain ⟨rfl, rfl⟩ := H
                      go_wp2
                      go_ret2
                      exact ⟨by first | rfl | (simp; done) | (simp [*]; done), by repeat (first | exact Drawn0.refl _ | apply Drawn0.step)⟩
                    · rw [if_neg c24] at H
                      have c24b0 : (a0.toList == ([109, 97, 107, 101] : List UInt8)) = false := beq_eq_false_iff_ne.mpr c24
                      have c24b1 : (a0.toList != ([109, 97, 107, 101] : List UInt8)) = true := bne_iff_ne.mpr c24
                      have HC25 := Aside0.mk H
                      clear H
                      go_upto_if 29 with (fail)
                      go_cut [29] (fun v29 wc => ∃ (kq : Nat) (x29_24 : Bool), v29 = .bool x29_24 ∧ Aside0 (sedimentref30_Shape.j3 kq a0 x29_24 = some (r1, r2)) ∧ Aside0 (kq ≤ kj20) ∧ Drawn0 w wc)
                      case first =>
                        have H := HC25.out
                        clear HC25
                        by_cases c26 : a0.toList = ([115, 99, 97, 110] : List UInt8)
                        · rw [if_pos c26] at H
                          have c26b0 : (a0.toList == ([115, 99, 97, 110] : List UInt8)) = true := beq_iff_eq.mpr c26
                          have c26b1 : (a0.toList != ([115, 99, 97, 110] : List UInt8)) = false := bne_eq_false_iff_eq.mpr c26
                          clear c26
                          (first | rw [c26b0] | (simp only [i64_w, i32_w]; rw [c26b0]) | skip)
                          have H' := Aside0.mk H
                          clear H
                          go_wp2
                          go_meet
                          case rel => exact ⟨_, ((a0.toList == ([115, 99, 97, 110] : List UInt8))), (by first | rfl | (simp; done) | (simp [*]; done)), H', ⟨by have := HJ1.out; have := HJ14.out; have := HJ20.out; first | omega | exact Nat.le_refl _⟩, by repeat (first | exact Drawn0.refl _ | apply Drawn0.step)⟩
                        · rw [if_neg c26] at H
                          have c26b0 : (a0.toList == ([115, 99, 97, 110] : List UInt8)) = false := beq_eq_false_iff_ne.mpr c26
                          have c26b1 : (a0.toList != ([115, 99, 97, 110] : List UInt8)) = true := bne_iff_ne.mpr c26
                          (first | rw [c26b0] | (simp only [i64_w, i32_w]; rw [c26b0]) | skip)
                          have H' := Aside0.mk H
                          clear H
                          go_wp2
                          go_meet
                          case rel => exact ⟨_, ((a0.toList == ([98, 97, 99, 107] : List UInt8))), (by first | rfl | (simp; done) | (simp [*]; done)), H', ⟨by have := HJ1.out; have := HJ14.out; have := HJ20.out; first | omega | exact Nat.le_refl _⟩, by repeat (first | exact Drawn0.refl _ | apply Drawn0.step)⟩
                      case rest =>
                        clear HC25
                        try clear c1
                        try clear c2
                        try clear p2
                        try clear c3
                        try clear c3b0
                        try clear c3b1
                        try clear c4
                        try clear c4b0
                        try clear c4b1
                        try clear c5
                        try clear c5b0
                        try clear c5b1
                        try clear c6
                        try clear c6b0
                        try clear c6b1
                        try clear c7
                        try clear c7b0
                        try clear c7b1
                        try clear c8
                        try clear c8b0
                        try clear c8b1
                        try clear c9
                        try clear c9b0
                        try clear c9b1
                        try clear c10
                        try clear c10b0
                        try clear c10b1
                        try clear c11
                        try clear c11b0
                        try clear c11b1
                        try clear c12
                        try clear c12b0
                        try clear c12b1
                        try clear c13
                        try clear c13b0
                        try clear c13b1
                        try clear c14
                        try clear c16
                        try clear c16b0
                        try clear c16b1
                        try clear c17
                        try clear c17b0
                        try clear c17b1
                        try clear c18
                        try clear c18b0
                        try clear c18b1
                        try clear c19
                        try clear c19b0
                        try clear c19b1
                        try clear c20
                        try clear c22
                        try clear c22b0
                        try clear c22b1
                        try clear c23
                        try clear c24
                        try clear c24b0
                        try clear c24b1
                        try clear c26
                        try clear c26b0
                        try clear c26b1
                        try clear p2
                        obtain ⟨kq, x29_24, rfl, HA, HJ24, ⟨mc24, rfl⟩⟩ := hcut
                        cases kq with
                        | zero => exact absurd HA.out (by simp [sedimentref30_Shape.j3])
                        | succ kj24 =>
                          have H := HA.out
                          clear HA
                          simp only [sedimentref30_Shape.j3] at H
                          by_cases c27 : x29_24 = true
                          · subst c27
                            have H1 : (some ((⟨#[68, 68]⟩ : ByteArray), true)) = some (r1, r2) := by rw [if_pos rfl] at H; exact H
                            clear H
                            have H := H1
                            clear H1
                            simp only [Option.some.injEq, Prod.mk.injEq] at H
                            obtain ⟨rfl, rfl⟩ := H
                            go_wp2
                            go_ret2
                            exact ⟨by first | rfl | (simp; done) | (simp [*]; done), by repeat (first | exact Drawn0.refl _ | apply Drawn0.step)⟩
                          · replace c27 := Bool.eq_false_iff.mpr c27
                            subst c27
                            have H1 : (if a0.toList = ([100, 101, 108] : List UInt8) then (sedimentref30_Shape.j4 kj24 a0 (a0.toList == ([100, 101, 108] : List UInt8))) else (if a0.toList = ([99, 117, 116] : List UInt8) then (sedimentref30_Shape.j4 kj24 a0 (a0.toList == ([99, 117, 116] : List UInt8))) else (if a0.toList = ([114, 101, 97, 100] : List UInt8) then (sedimentref30_Shape.j4 kj24 a0 (a0.toList == ([114, 101, 97, 100] : List UInt8))) else (if a0.toList = ([117, 110, 115, 101, 116] : List UInt8) then (sedimentref30_Shape.j4 kj24 a0 (a0.toList == ([117, 110, 115, 101, 116] : List UInt8))) else (sedimentref30_Shape.j4 kj24 a0 (a0.toList == ([111, 108, 100] : List UInt8))))))) = some (r1, r2) := by rw [if_neg (show ¬ (false = true) by decide)] at H; exact H
                            clear H
                            have H := H1
                            clear H1
                            have HC28 := Aside0.mk H
                            clear H
                            go_upto_if 32 with (fail)
                            go_cut [32] (fun v32 wc => ∃ (kq : Nat) (x32_27 : Bool), v32 = .bool x32_27 ∧ Aside0 (sedimentref30_Shape.j4 kq a0 x32_27 = some (r1, r2)) ∧ Aside0 (kq ≤ kj24) ∧ Drawn0 w wc)
                            case first =>
                              have H := HC28.out
                              clear HC28
                              by_cases c29 : a0.toList = ([100, 101, 108] : List UInt8)
                              · rw [if_pos c29] at H
                                have c29b0 : (a0.toList == ([100, 101, 108] : List UInt8)) = true := beq_iff_eq.mpr c29
                                have c29b1 : (a0.toList != ([100, 101, 108] : List UInt8)) = false := bne_eq_false_iff_eq.mpr c29
                                clear c29
                                (first | rw [c29b0] | (simp only [i64_w, i32_w]; rw [c29b0]) | skip)
                                have H' := Aside0.mk H
                                clear H
                                go_wp2
                                go_meet
                                case rel => exact ⟨_, ((a0.toList == ([100, 101, 108] : List UInt8))), (by first | rfl | (simp; done) | (simp [*]; done)), H', ⟨by have := HJ1.out; have := HJ14.out; have := HJ20.out; have := HJ24.out; first | omega | exact Nat.le_refl _⟩, by repeat (first | exact Drawn0.refl _ | apply Drawn0.step)⟩
                              · rw [if_neg c29] at H
                                have c29b0 : (a0.toList == ([100, 101, 108] : List UInt8)) = false := beq_eq_false_iff_ne.mpr c29
                                have c29b1 : (a0.toList != ([100, 101, 108] : List UInt8)) = true := bne_iff_ne.mpr c29
                                (first | rw [c29b0] | (simp only [i64_w, i32_w]; rw [c29b0]) | skip)
                                by_cases c30 : a0.toList = ([99, 117, 116] : List UInt8)
                                · rw [if_pos c30] at H
                                  have c30b0 : (a0.toList == ([99, 117, 116] : List UInt8)) = true := beq_iff_eq.mpr c30
                                  have c30b1 : (a0.toList != ([99, 117, 116] : List UInt8)) = false := bne_eq_false_iff_eq.mpr c30
                                  clear c30
                                  have H' := Aside0.mk H
                                  clear H
                                  go_wp2
                                  go_meet
                                  case rel => exact ⟨_, ((a0.toList == ([99, 117, 116] : List UInt8))), (by first | rfl | (simp; done) | (simp [*]; done)), H', ⟨by have := HJ1.out; have := HJ14.out; have := HJ20.out; have := HJ24.out; first | omega | exact Nat.le_refl _⟩, by repeat (first | exact Drawn0.refl _ | apply Drawn0.step)⟩
                                · rw [if_neg c30] at H
                                  have c30b0 : (a0.toList == ([99, 117, 116] : List UInt8)) = false := beq_eq_false_iff_ne.mpr c30
                                  have c30b1 : (a0.toList != ([99, 117, 116] : List UInt8)) = true := bne_iff_ne.mpr c30
                                  by_cases c31 : a0.toList = ([114, 101, 97, 100] : List UInt8)
                                  · rw [if_pos c31] at H
                                    have c31b0 : (a0.toList == ([114, 101, 97, 100] : List UInt8)) = true := beq_iff_eq.mpr c31
                                    have c31b1 : (a0.toList != ([114, 101, 97, 100] : List UInt8)) = false := bne_eq_false_iff_eq.mpr c31
                                    clear c31
                                    have H' := Aside0.mk H
                                    clear H
                                    go_wp2
                                    go_meet
                                    case rel => exact ⟨_, ((a0.toList == ([114, 101, 97, 100] : List UInt8))), (by first | rfl | (simp; done) | (simp [*]; done)), H', ⟨by have := HJ1.out; have := HJ14.out; have := HJ20.out; have := HJ24.out; first | omega | exact Nat.le_refl _⟩, by repeat (first | exact Drawn0.refl _ | apply Drawn0.step)⟩
                                  · rw [if_neg c31] at H
                                    have c31b0 : (a0.toList == ([114, 101, 97, 100] : List UInt8)) = false := beq_eq_false_iff_ne.mpr c31
                                    have c31b1 : (a0.toList != ([114, 101, 97, 100] : List UInt8)) = true := bne_iff_ne.mpr c31
                                    by_cases c32 : a0.toList = ([117, 110, 115, 101, 116] : List UInt8)
                                    · rw [if_pos c32] at H
                                      have c32b0 : (a0.toList == ([117, 110, 115, 101, 116] : List UInt8)) = true := beq_iff_eq.mpr c32
                                      have c32b1 : (a0.toList != ([117, 110, 115, 101, 116] : List UInt8)) = false := bne_eq_false_iff_eq.mpr c32
                                      clear c32
                                      have H' := Aside0.mk H
                                      clear H
                                      go_wp2
                                      go_meet
                                      case rel => exact ⟨_, ((a0.toList == ([117, 110, 115, 101, 116] : List UInt8))), (by first | rfl | (simp; done) | (simp [*]; done)), H', ⟨by have := HJ1.out; have := HJ14.out; have := HJ20.out; have := HJ24.out; first | omega | exact Nat.le_refl _⟩, by repeat (first | exact Drawn0.refl _ | apply Drawn0.step)⟩
                                    · rw [if_neg c32] at H
                                      have c32b0 : (a0.toList == ([117, 110, 115, 101, 116] : List UInt8)) = false := beq_eq_false_iff_ne.mpr c32
                                      have c32b1 : (a0.toList != ([117, 110, 115, 101, 116] : List UInt8)) = true := bne_iff_ne.mpr c32
                                      have H' := Aside0.mk H
                                      clear H
                                      go_wp2
                                      go_meet
                                      case rel => exact ⟨_, ((a0.toList == ([111, 108, 100] : List UInt8))), (by first | rfl | (simp; done) | (simp [*]; done)), H', ⟨by have := HJ1.out; have := HJ14.out; have := HJ20.out; have := HJ24.out; first | omega | exact Nat.le_refl _⟩, by repeat (first | exact Drawn0.refl _ | apply Drawn0.step)⟩
                            case rest =>
                              clear HC28
                              try clear c1
                              try clear c2
                              try clear p2
                              try clear c3
                              try clear c3b0
                              try clear c3b1
                              try clear c4
                              try clear c4b0
                              try clear c4b1
                              try clear c5
                              try clear c5b0
                              try clear c5b1
                              try clear c6
                              try clear c6b0
                              try clear c6b1
                              try clear c7
                              try clear c7b0
                              try clear c7b1
                              try clear c8
                              try clear c8b0
                              try clear c8b1
                              try clear c9
                              try clear c9b0
                              try clear c9b1
                              try clear c10
                              try clear c10b0
                              try clear c10b1
                              try clear c11
                              try clear c11b0
                              try clear c11b1
                              try clear c12
                              try clear c12b0
                              try clear c12b1
                              try clear c13
                              try clear c13b0
                              try clear c13b1
                              try clear c14
                              try clear c16
                              try clear c16b0
                              try clear c16b1
                              try clear c17
                              try clear c17b0
                              try clear c17b1
                              try clear c18
                              try clear c18b0
                              try clear c18b1
                              try clear c19
                              try clear c19b0
                              try clear c19b1
                              try clear c20
                              try clear c22
                              try clear c22b0
                              try clear c22b1
                              try clear c23
                              try clear c24
                              try clear c24b0
                              try clear c24b1
                              try clear c26
                              try clear c26b0
                              try clear c26b1
                              try clear c27
                              try clear c29
                              try clear c29b0
                              try clear c29b1
                              try clear c30
                              try clear c30b0
                              try clear c30b1
                              try clear c31
                              try clear c31b0
                              try clear c31b1
                              try clear c32
                              try clear c32b0
                              try clear c32b1
                              try clear p2
                              obtain ⟨kq, x32_27, rfl, HA, HJ27, ⟨mc27, rfl⟩⟩ := hcut
                              cases kq with
                              | zero => exact absurd HA.out (by simp [sedimentref30_Shape.j4])
                              | succ kj27 =>
                                have H := HA.out
                                clear HA
                                simp only [sedimentref30_Shape.j4] at H
                                by_cases c33 : x32_27 = true
                                · subst c33
                                  have H1 : (some ((⟨#[68, 78]⟩ : ByteArray), true)) = some (r1, r2) := by rw [if_pos rfl] at H; exact H
                                  clear H
                                  have H := H1
                                  clear H1
                                  simp only [Option.some.injEq, Prod.mk.injEq] at H
                                  obtain ⟨rfl, rfl⟩ := H
                                  go_wp2
                                  go_ret2
                                  exact ⟨by first | rfl | (simp; done) | (simp [*]; done), by repeat (first | exact Drawn0.refl _ | apply Drawn0.step)⟩
                                · replace c33 := Bool.eq_false_iff.mpr c33
                                  subst c33
                                  have H1 : (if a0.toList = ([112, 117, 116] : List UInt8) then (sedimentref30_Shape.j5 kj27 a0 (a0.toList == ([112, 117, 116] : List UInt8))) else (if a0.toList = ([114, 97, 110, 103, 101] : List UInt8) then (sedimentref30_Shape.j5 kj27 a0 (a0.toList == ([114, 97, 110, 103, 101] : List UInt8))) else (if a0.toList = ([97, 100, 100] : List UInt8) then (sedimentref30_Shape.j5 kj27 a0 (a0.toList == ([97, 100, 100] : List UInt8))) else (if a0.toList = ([99, 108, 101, 97, 114] : List UInt8) then (sedimentref30_Shape.j5 kj27 a0 (a0.toList == ([99, 108, 101, 97, 114] : List UInt8))) else (if a0.toList = ([99, 111, 109, 112, 97, 99, 116] : List UInt8) then (sedimentref30_Shape.j5 kj27 a0 (a0.toList == ([99, 111, 109, 112, 97, 99, 116] : List UInt8))) else (sedimentref30_Shape.j5 kj27 a0 (a0.toList == ([115, 101, 116] : List UInt8)))))))) = some (r1, r2) := by rw [if_neg (show ¬ (false = true) by decide)] at H; exact H
                                  clear H
                                  have H := H1
                                  clear H1
                                  have HC34 := Aside0.mk H
                                  clear H
                                  go_upto_if 38 with (fail)
                                  go_cut [38] (fun v38 wc => ∃ (kq : Nat) (x38_33 : Bool), v38 = .bool x38_33 ∧ Aside0 (sedimentref30_Shape.j5 kq a0 x38_33 = some (r1, r2)) ∧ Aside0 (kq ≤ kj27) ∧ Drawn0 w wc)
                                  case first =>
                                    have H := HC34.out
                                    clear HC34
                                    by_cases c35 : a0.toList = ([112, 117, 116] : List UInt8)
                                    · rw [if_pos c35] at H
                                      have c35b0 : (a0.toList == ([112, 117, 116] : List UInt8)) = true := beq_iff_eq.mpr c35
                                      have c35b1 : (a0.toList != ([112, 117, 116] : List UInt8)) = false := bne_eq_false_iff_eq.mpr c35
                                      clear c35
                                      (first | rw [c35b0] | (simp only [i64_w, i32_w]; rw [c35b0]) | skip)
                                      have H' := Aside0.mk H
                                      clear H
                                      go_wp2
                                      go_meet
                                      case rel => exact ⟨_, ((a0.toList == ([112, 117, 116] : List UInt8))), (by first | rfl | (simp; done) | (simp [*]; done)), H', ⟨by have := HJ1.out; have := HJ14.out; have := HJ20.out; have := HJ24.out; have := HJ27.out; first | omega | exact Nat.le_refl _⟩, by repeat (first | exact Drawn0.refl _ | apply Drawn0.step)⟩
                                    · rw [if_neg c35] at H
                                      have c35b0 : (a0.toList == ([112, 117, 116] : List UInt8)) = false := beq_eq_false_iff_ne.mpr c35
                                      have c35b1 : (a0.toList != ([112, 117, 116] : List UInt8)) = true := bne_iff_ne.mpr c35
                                      (first | rw [c35b0] | (simp only [i64_w, i32_w]; rw [c35b0]) | skip)
                                      by_cases c36 : a0.toList = ([114, 97, 110, 103, 101] : List UInt8)
                                      · rw [if_pos c36] at H
                                        have c36b0 : (a0.toList == ([114, 97, 110, 103, 101] : List UInt8)) = true := beq_iff_eq.mpr c36
                                        have c36b1 : (a0.toList != ([114, 97, 110, 103, 101] : List UInt8)) = false := bne_eq_false_iff_eq.mpr c36
                                        clear c36
                                        have H' := Aside0.mk H
                                        clear H
                                        go_wp2
                                        go_meet
                                        case rel => exact ⟨_, ((a0.toList == ([114, 97, 110, 103, 101] : List UInt8))), (by first | rfl | (simp; done) | (simp [*]; done)), H', ⟨by have := HJ1.out; have := HJ14.out; have := HJ20.out; have := HJ24.out; have := HJ27.out; first | omega | exact Nat.le_refl _⟩, by repeat (first | exact Drawn0.refl _ | apply Drawn0.step)⟩
                                      · rw [if_neg c36] at H
                                        have c36b0 : (a0.toList == ([114, 97, 110, 103, 101] : List UInt8)) = false := beq_eq_false_iff_ne.mpr c36
                                        have c36b1 : (a0.toList != ([114, 97, 110, 103, 101] : List UInt8)) = true := bne_iff_ne.mpr c36
                                        by_cases c37 : a0.toList = ([97, 100, 100] : List UInt8)
                                        · rw [if_pos c37] at H
                                          have c37b0 : (a0.toList == ([97, 100, 100] : List UInt8)) = true := beq_iff_eq.mpr c37
                                          have c37b1 : (a0.toList != ([97, 100, 100] : List UInt8)) = false := bne_eq_false_iff_eq.mpr c37
                                          clear c37
                                          have H' := Aside0.mk H
                                          clear H
                                          go_wp2
                                          go_meet
                                          case rel => exact ⟨_, ((a0.toList == ([97, 100, 100] : List UInt8))), (by first | rfl | (simp; done) | (simp [*]; done)), H', ⟨by have := HJ1.out; have := HJ14.out; have := HJ20.out; have := HJ24.out; have := HJ27.out; first | omega | exact Nat.le_refl _⟩, by repeat (first | exact Drawn0.refl _ | apply Drawn0.step)⟩
                                        · rw [if_neg c37] at H
                                          have c37b0 : (a0.toList == ([97, 100, 100] : List UInt8)) = false := beq_eq_false_iff_ne.mpr c37
                                          have c37b1 : (a0.toList != ([97, 100, 100] : List UInt8)) = true := bne_iff_ne.mpr c37
                                          by_cases c38 : a0.toList = ([99, 108, 101, 97, 114] : List UInt8)
                                          · rw [if_pos c38] at H
                                            have c38b0 : (a0.toList == ([99, 108, 101, 97, 114] : List UInt8)) = true := beq_iff_eq.mpr c38
                                            have c38b1 : (a0.toList != ([99, 108, 101, 97, 114] : List UInt8)) = false := bne_eq_false_iff_eq.mpr c38
                                            clear c38
                                            have H' := Aside0.mk H
                                            clear H
                                            go_wp2
                                            go_meet
                                            case rel => exact ⟨_, ((a0.toList == ([99, 108, 101, 97, 114] : List UInt8))), (by first | rfl | (simp; done) | (simp [*]; done)), H', ⟨by have := HJ1.out; have := HJ14.out; have := HJ20.out; have := HJ24.out; have := HJ27.out; first | omega | exact Nat.le_refl _⟩, by repeat (first | exact Drawn0.refl _ | apply Drawn0.step)⟩
                                          · rw [if_neg c38] at H
                                            have c38b0 : (a0.toList == ([99, 108, 101, 97, 114] : List UInt8)) = false := beq_eq_false_iff_ne.mpr c38
                                            have c38b1 : (a0.toList != ([99, 108, 101, 97, 114] : List UInt8)) = true := bne_iff_ne.mpr c38
                                            by_cases c39 : a0.toList = ([99, 111, 109, 112, 97, 99, 116] : List UInt8)
                                            · rw [if_pos c39] at H
                                              have c39b0 : (a0.toList == ([99, 111, 109, 112, 97, 99, 116] : List UInt8)) = true := beq_iff_eq.mpr c39
                                              have c39b1 : (a0.toList != ([99, 111, 109, 112, 97, 99, 116] : List UInt8)) = false := bne_eq_false_iff_eq.mpr c39
                                              clear c39
                                              have H' := Aside0.mk H
                                              clear H
                                              go_wp2
                                              go_meet
                                              case rel => exact ⟨_, ((a0.toList == ([99, 111, 109, 112, 97, 99, 116] : List UInt8))), (by first | rfl | (simp; done) | (simp [*]; done)), H', ⟨by have := HJ1.out; have := HJ14.out; have := HJ20.out; have := HJ24.out; have := HJ27.out; first | omega | exact Nat.le_refl _⟩, by repeat (first | exact Drawn0.refl _ | apply Drawn0.step)⟩
                                            · rw [if_neg c39] at H
                                              have c39b0 : (a0.toList == ([99, 111, 109, 112, 97, 99, 116] : List UInt8)) = false := beq_eq_false_iff_ne.mpr c39
                                              have c39b1 : (a0.toList != ([99, 111, 109, 112, 97, 99, 116] : List UInt8)) = true := bne_iff_ne.mpr c39
                                              have H' := Aside0.mk H
                                              clear H
                                              go_wp2
                                              go_meet
                                              case rel => exact ⟨_, ((a0.toList == ([115, 101, 116] : List UInt8))), (by first | rfl | (simp; done) | (simp [*]; done)), H', ⟨by have := HJ1.out; have := HJ14.out; have := HJ20.out; have := HJ24.out; have := HJ27.out; first | omega | exact Nat.le_refl _⟩, by repeat (first | exact Drawn0.refl _ | apply Drawn0.step)⟩
                                  case rest =>
                                    clear HC34
                                    try clear c1
                                    try clear c2
                                    try clear p2
                                    try clear c3
                                    try clear c3b0
                                    try clear c3b1
                                    try clear c4
                                    try clear c4b0
                                    try clear c4b1
                                    try clear c5
                                    try clear c5b0
                                    try clear c5b1
                                    try clear c6
                                    try clear c6b0
                                    try clear c6b1
                                    try clear c7
                                    try clear c7b0
                                    try clear c7b1
                                    try clear c8
                                    try clear c8b0
                                    try clear c8b1
                                    try clear c9
                                    try clear c9b0
                                    try clear c9b1
                                    try clear c10
                                    try clear c10b0
                                    try clear c10b1
                                    try clear c11
                                    try clear c11b0
                                    try clear c11b1
                                    try clear c12
                                    try clear c12b0
                                    try clear c12b1
                                    try clear c13
                                    try clear c13b0
                                    try clear c13b1
                                    try clear c14
                                    try clear c16
                                    try clear c16b0
                                    try clear c16b1
                                    try clear c17
                                    try clear c17b0
                                    try clear c17b1
                                    try clear c18
                                    try clear c18b0
                                    try clear c18b1
                                    try clear c19
                                    try clear c19b0
                                    try clear c19b1
                                    try clear c20
                                    try clear c22
                                    try clear c22b0
                                    try clear c22b1
                                    try clear c23
                                    try clear c24
                                    try clear c24b0
                                    try clear c24b1
                                    try clear c26
                                    try clear c26b0
                                    try clear c26b1
                                    try clear c27
                                    try clear c29
                                    try clear c29b0
                                    try clear c29b1
                                    try clear c30
                                    try clear c30b0
                                    try clear c30b1
                                    try clear c31
                                    try clear c31b0
                                    try clear c31b1
                                    try clear c32
                                    try clear c32b0
                                    try clear c32b1
                                    try clear c33
                                    try clear c35
                                    try clear c35b0
                                    try clear c35b1
                                    try clear c36
                                    try clear c36b0
                                    try clear c36b1
                                    try clear c37
                                    try clear c37b0
                                    try clear c37b1
                                    try clear c38
                                    try clear c38b0
                                    try clear c38b1
                                    try clear c39
                                    try clear c39b0
                                    try clear c39b1
                                    try clear p2
                                    obtain ⟨kq, x38_33, rfl, HA, HJ33, ⟨mc33, rfl⟩⟩ := hcut
                                    cases kq with
                                    | zero => exact absurd HA.out (by simp [sedimentref30_Shape.j5])
                                    | succ kj33 =>
                                      have H := HA.out
                                      clear HA
                                      simp only [sedimentref30_Shape.j5] at H
                                      by_cases c40 : x38_33 = true
                                      · subst c40
                                        have H1 : (some ((⟨#[68, 78, 78]⟩ : ByteArray), true)) = some (r1, r2) := by rw [if_pos rfl] at H; exact H
                                        clear H
                                        have H := H1
                                        clear H1
                                        simp only [Option.some.injEq, Prod.mk.injEq] at H
                                        obtain ⟨rfl, rfl⟩ := H
                                        go_wp2
                                        go_ret2
                                        exact ⟨by first | rfl | (simp; done) | (simp [*]; done), by repeat (first | exact Drawn0.refl _ | apply Drawn0.step)⟩
                                      · replace c40 := Bool.eq_false_iff.mpr c40
                                        subst c40
                                        have H1 : (if a0.toList = ([103, 101, 116] : List UInt8) then (some ((⟨#[68, 78, 68]⟩ : ByteArray), true)) else (if a0.toList = ([116, 97, 107, 101] : List UInt8) then (some ((⟨#[68, 78, 78, 78, 78]⟩ : ByteArray), true)) else (some ((⟨#[]⟩ : ByteArray), false)))) = some (r1, r2) := by rw [if_neg (show ¬ (false = true) by decide)] at H; exact H
                                        clear H
                                        have H := H1
                                        clear H1
                                        by_cases c41 : a0.toList = ([103, 101, 116] : List UInt8)
                                        · rw [if_pos c41] at H
                                          have c41b0 : (a0.toList == ([103, 101, 116] : List UInt8)) = true := beq_iff_eq.mpr c41
                                          have c41b1 : (a0.toList != ([103, 101, 116] : List UInt8)) = false := bne_eq_false_iff_eq.mpr c41
                                          clear c41
                                          simp only [Option.some.injEq, Prod.mk.injEq] at H
                                          obtain ⟨rfl, rfl⟩ := H
                                          go_wp2
                                          go_ret2
                                          exact ⟨by first | rfl | (simp; done) | (simp [*]; done), by repeat (first | exact Drawn0.refl _ | apply Drawn0.step)⟩
                                        · rw [if_neg c41] at H
                                          have c41b0 : (a0.toList == ([103, 101, 116] : List UInt8)) = false := beq_eq_false_iff_ne.mpr c41
                                          have c41b1 : (a0.toList != ([103, 101, 116] : List UInt8)) = true := bne_iff_ne.mpr c41
                                          by_cases c42 : a0.toList = ([116, 97, 107, 101] : List UInt8)
                                          · rw [if_pos c42] at H
                                            have c42b0 : (a0.toList == ([116, 97, 107, 101] : List UInt8)) = true := beq_iff_eq.mpr c42
                                            have c42b1 : (a0.toList != ([116, 97, 107, 101] : List UInt8)) = false := bne_eq_false_iff_eq.mpr c42
                                            clear c42
                                            simp only [Option.some.injEq, Prod.mk.injEq] at H
                                            obtain ⟨rfl, rfl⟩ := H
                                            go_wp2
                                            go_ret2
                                            exact ⟨by first | rfl | (simp; done) | (simp [*]; done), by repeat (first | exact Drawn0.refl _ | apply Drawn0.step)⟩
                                          · rw [if_neg c42] at H
                                            have c42b0 : (a0.toList == ([116, 97, 107, 101] : List UInt8)) = false := beq_eq_false_iff_ne.mpr c42
                                            have c42b1 : (a0.toList != ([116, 97, 107, 101] : List UInt8)) = true := bne_iff_ne.mpr c42
                                            simp only [Option.some.injEq, Prod.mk.injEq] at H
                                            obtain ⟨rfl, rfl⟩ := H
                                            go_wp2
                                            go_ret2
                                            exact ⟨by first | rfl | (simp; done) | (simp [*]; done), by repeat (first | exact Drawn0.refl _ | apply Drawn0.step)⟩

end Go.Proofs.YtmjneidcdeeafaaDoor.QP
