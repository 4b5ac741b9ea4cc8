/- The library's functions that the script's reader calls, each as a partial function with its contract, in the form that the printed texts take: strings.Cut at a line feed, strings.FieldsFunc at 'is it a blank', strings.Trim at an ASCII cutset, strconv.Atoi at a numeral. -/
import Derived.Test.YtmjneidcdeeafaaDoorShelf
import Derived.Test.YtmjneidcdeeafaaDoorWWords
import Derived.WalkKit
import Derived.WalkMore
import Derived.WalkLawsBesides
import Derived.WalkSpells
import Derived.Deep.QuietTactic
import Derived.BigQuiet
import Derived.IntWalk
import Derived.Outline
namespace Go.Proofs.YtmjneidcdeeafaaDoor.Ext
open Go.RowKit Go.Shelf Go.Proofs.YtmjneidcdeeafaaDoorW.PrintWords

def cutF (a0 a1 : ByteArray) : Option (ByteArray × ByteArray × Bool) :=
  if a1.data.toList = [10] ∧ a0.size ≤ 9223372036854775806 then
    (if 0 ≤ Lib.indexByte a0.data.toList 10 then some (a0.extract 0 (Lib.indexByte a0.data.toList 10).toNat, a0.extract ((Lib.indexByte a0.data.toList 10).toNat + 1) a0.size, true) else some (a0, ⟨#[]⟩, false))
  else none
def fieldsF (a0 : ByteArray) : Option (List ByteArray) := if a0.size ≤ 4294967296 then some (Lib.goFieldsP (fun r => r == 32) a0) else none
def trimF (a0 a1 : ByteArray) : Option ByteArray :=
  if a0.size ≤ 9223372036854775807 ∧ a1.size < 4294967281 ∧ a1.data.toList.all (fun b => decide (b.toNat < 128)) = true then some ⟨(Lib.trimS a0.data.toList a1.data.toList).toArray⟩ else none
def atoiF (a0 : ByteArray) : Option (Int × Option Int) :=
  if a0.size ≤ 9223372036854775806 then (match Lib.atoiAll a0.data.toList with | .ok v => some (v, none) | _ => none) else none

theorem idx_nonneg (l : List UInt8) (c : UInt8) : Lib.indexByte l c < l.length := by
  induction l with
  | nil => simp [Lib.indexByte]
  | cons x t ih => unfold Lib.indexByte; split <;> (try split) <;> simp <;> omega

set_option maxHeartbeats 1000000 in
theorem cut14 (a0 r1 r2 : ByteArray) (r3 : Bool) (w : World) (h : cutF a0 ⟨#[10]⟩ = some (r1, r2, r3)) :
    Calls Tryd.prog 14 #[.string a0, .string ⟨#[10]⟩] w fun e w' => e = .returned (.tuple #[.string r1, .string r2, .bool r3]) ∧ Drawn0 w w' := by
  have hc := fun W => Any.stringslite_Index_one Tryd.lays219 a0 10 W
  have hlt := idx_nonneg a0.data.toList 10
  have hsz : a0.data.toList.length = a0.size := rfl
  rw [hsz] at hlt
  clear hsz
  unfold cutF at h
  by_cases hz : a0.size ≤ 9223372036854775806
  case neg => rw [if_neg (fun z => hz z.2)] at h; cases h
  rw [if_pos ⟨rfl, hz⟩] at h
  generalize Lib.indexByte a0.data.toList 10 = i at hc h hlt
  by_cases hi : 0 ≤ i
  · rw [if_pos hi] at h
    simp only [Option.some.injEq, Prod.mk.injEq] at h
    obtain ⟨rfl, rfl, rfl⟩ := h
    obtain ⟨n, rfl⟩ := Int.eq_ofNat_of_zero_le hi
    have hn : n < a0.size := by omega
    have e1 : IntKind.i64.wrap (↑n + 1) = ↑n + 1 := IntWalk.i64_in _ (by omega)
    have e2 : ((n : Int) + 1).toNat = n + 1 := by omega
    have e3 : (0 : Int) ≤ ↑n + 1 := by omega
    have e4 : ((n : Int)).toNat = n := by omega
    rw [e4]
    go_enter Tryd.func14, Tryd.ntmps14
    go_wp2_with (go_at_call 19; refine (hc _).mono ?_; rintro e w' ⟨rfl, rfl⟩)
    go_quiet (fail)
    go_wp2
    go_ret3
    exact ⟨rfl, ⟨⟨_, rfl⟩⟩⟩
  · rw [if_neg hi] at h
    simp only [Option.some.injEq, Prod.mk.injEq] at h
    obtain ⟨rfl, rfl, rfl⟩ := h
    go_enter Tryd.func14, Tryd.ntmps14
    go_wp2_with (go_at_call 19; refine (hc _).mono ?_; rintro e w' ⟨rfl, rfl⟩)
    go_ret3
    exact ⟨rfl, Drawn0.refl _⟩

theorem cut_calls (a0 a1 r1 r2 : ByteArray) (r3 : Bool) (w : World) (h : cutF a0 a1 = some (r1, r2, r3)) :
    Calls Tryd.prog 10 #[.string a0, .string a1] w fun e w' => e = .returned (.tuple #[.string r1, .string r2, .bool r3]) ∧ Drawn0 w w' := by
  by_cases h1 : a1.data.toList = [10]
  · obtain rfl : a1 = ⟨#[10]⟩ := by obtain ⟨⟨l⟩⟩ := a1; simp at h1; rw [h1]
    have hc := cut14 a0 r1 r2 r3 w h
    go_enter Tryd.func10, Tryd.ntmps10
    go_wp2_with (go_at_call 14; refine hc.mono ?_; rintro e w' ⟨rfl, hd⟩)
    go_ret3
    exact ⟨rfl, hd⟩
  · unfold cutF at h
    rw [if_neg (fun z => h1 z.1)] at h
    cases h

theorem blank_pays (w : World) : PredGrows Tryd.prog 16 #[] (fun r => r == 32) w := by
  intro W x hx hb
  show Calls Tryd.prog 16 #[.int .i32 (x : Int)] W _
  by_cases h : x = 32
  · subst h
    go_enter Tryd.func16, Tryd.ntmps16
    go_wp2
    go_ret
    exact ⟨rfl, Below.refl _ _⟩
  · have h1 : ((x : Int) == 32) = false := by simp; omega
    have h2 : (x == 32) = false := by simp; omega
    show Calls Tryd.prog 16 #[.int .i32 (x : Int)] W fun e w' => e = .returned (.bool (x == 32)) ∧ Below W.heap.size W w'
    rw [h2]
    go_enter Tryd.func16, Tryd.ntmps16
    go_wp2
    go_ret
    exact ⟨rfl, Below.refl _ _⟩

theorem reps_string (w : World) (base : Nat) (ok : Nat → Prop) (l : List ByteArray) : Reps (Kd.string.M w base ok) 1 l (l.map Value.string) := by
  refine ⟨by simp, fun j p hj => ?_⟩
  have hlt : j < l.length := (List.getElem?_eq_some_iff.1 hj).1
  have e : ((l.map Value.string).drop (j * 1)).take 1 = [Value.string p] := by
    rw [Nat.mul_one, List.drop_eq_getElem_cons (by simpa using hlt)]
    simp
    exact (List.getElem?_eq_some_iff.1 hj).2
  rw [e]
  exact rfl

theorem fields_calls (a0 : ByteArray) (r : List ByteArray) (w : World) (h : fieldsF a0 = some r) :
    Calls Tryd.prog 15 #[.string a0, .func (.func 16) #[] #[]] w fun e w' => ∃ v0_ : Value, e = .returned (v0_) ∧ Kd.R Kd.string 9 w' w.heap.size (fun _ => True) v0_ r ∧ Below w.heap.size w w' := by
  unfold fieldsF at h
  split at h
  next hs =>
    obtain rfl := Option.some.inj h
    refine (Any.strings_FieldsFunc_grows Tryd.lays229 16 #[] (enters_of Tryd.func16 (by kernel_rfl) rfl) (fun r => r == 32) a0 w hs (blank_pays w) (by kernel_rfl) (by kernel_rfl)).mono ?_
    rintro e w' ⟨A, rfl, hA, hown, hb⟩
    exact ⟨_, rfl, ⟨fun _ _ => trivial, _, hown, reps_string _ _ _ _⟩, hb⟩
  next => cases h

theorem trim_calls (a0 a1 r : ByteArray) (w : World) (h : trimF a0 a1 = some r) :
    Calls Tryd.prog 25 #[.string a0, .string a1] w fun e w' => e = .returned (.string r) ∧ Below w.heap.size w w' := by
  unfold trimF at h
  split at h
  next hs =>
    obtain rfl := Option.some.inj h
    exact Any.strings_Trim_laid Tryd.lays160 (by kernel_rfl) a0 a1 w hs.1 hs.2.1 (ascii_of_all hs.2.2)
  next => cases h

theorem atoi_calls (a0 : ByteArray) (r1 : Int) (r2 : Option Int) (w : World) (h : atoiF a0 = some (r1, r2)) :
    Calls Tryd.prog 26 #[.string a0] w fun e w' => r2 = none ∧ e = .returned (.tuple #[.int .i64 r1, .nilIface]) ∧ Below w.heap.size w w' := by
  unfold atoiF at h
  split at h
  next hs =>
    split at h
    next v hv =>
      simp only [Option.some.injEq, Prod.mk.injEq] at h
      obtain ⟨rfl, rfl⟩ := h
      refine (Any.strconv_Atoi_ok Tryd.laysC172 a0 hs v hv w).mono ?_
      rintro e w' ⟨rfl, hw⟩
      refine ⟨rfl, rfl, ?_⟩
      rcases hw with rfl | ⟨t, rfl⟩
      · exact Below.refl _ _
      · exact bytes_below (Below.refl _ _) (Nat.le_refl _) _ _
    next => cases h
  next => cases h
end Go.Proofs.YtmjneidcdeeafaaDoor.Ext
