-- LAID BY myprint.sh (a print with contracts of one's own beside it). Not trusted: Lean checks it.
import Derived.Test.YtmjneidcdeeafaaDoorQPx0
import Derived.Test.YtmjneidcdeeafaaDoorQPx1
import Derived.Test.YtmjneidcdeeafaaDoorQPx2
namespace Go.Proofs.YtmjneidcdeeafaaDoor.QP
open Go.RowKit Go.Proofs.YtmjneidcdeeafaaDoorW.PrintWords Go.Proofs.YtmjneidcdeeafaaDoorW.PrintLast Go.Proofs.YtmjneidcdeeafaaDoorW.PrintMore
attribute [local go_sem] max2_int min2_int max_two min_two max_three min_three max_four min_four   -- for this text's walks alone
set_option linter.unusedVariables false
set_option linter.unusedSimpArgs false

/-! ### strings_Trim: function 25 -/
def strings_Trim.f (a0 : ByteArray) (a1 : ByteArray) : Option ByteArray := Go.Proofs.YtmjneidcdeeafaaDoor.Ext.trimF a0 a1
theorem strings_Trim.calls (a0 : ByteArray) (a1 : ByteArray) (r : ByteArray) (w : World) (h : strings_Trim.f a0 a1 = some r) :
    Calls Tryd.prog 25 #[.string a0, .string a1] w fun e w' => e = .returned (.string r) ∧ Below w.heap.size w w' := Go.Proofs.YtmjneidcdeeafaaDoor.Ext.trim_calls a0 a1 r w h

/-! ### strconv_Atoi: function 26 -/
def strconv_Atoi.f (a0 : ByteArray) : Option (Int × Option Int) := Go.Proofs.YtmjneidcdeeafaaDoor.Ext.atoiF a0
theorem strconv_Atoi.calls (a0 : ByteArray) (r1 : Int) (r2 : Option Int) (w : World) (h : strconv_Atoi.f a0 = some (r1, r2)) :
    Calls Tryd.prog 26 #[.string a0] w fun e w' => e = .returned (.tuple #[.int .i64 r1, errW r2]) ∧ Below w.heap.size w w' := by
  refine (Go.Proofs.YtmjneidcdeeafaaDoor.Ext.atoi_calls a0 r1 r2 w h).mono ?_
  rintro e w' ⟨rfl, rfl, hb⟩
  exact ⟨rfl, hb⟩

/-! ### shell_number: function 20 -/
def shell_number.f (a0 : ByteArray) : Option (Int × Bool) := if a0.toList = ([] : List UInt8) then (some (0, false)) else (if (a0.size : Int) > 4 then (some (0, false)) else ((strings_Trim.f a0 (⟨#[48, 49, 50, 51, 52, 53, 54, 55, 56, 57]⟩ : ByteArray)).bind fun t101 => (if t101.toList = ([] : List UInt8) then ((strconv_Atoi.f a0).bind fun bt102 => (some (bt102.1, true))) else (some (0, false)))))
set_option maxHeartbeats 8000000 in
set_option maxRecDepth 100000 in
theorem shell_number.calls (a0 : ByteArray) (r1 : Int) (r2 : Bool) (w : World) (h : shell_number.f a0 = some (r1, r2)) :
    Calls Tryd.prog 20 #[.string a0] w fun e w' => e = .returned (.tuple #[.int .i64 r1, .bool r2]) ∧ Below w.heap.size w w' := by
  have HB := Aside0.mk (Below.refl w.heap.size w)
  have H : (if a0.toList = ([] : List UInt8) then (some (0, false)) else (if (a0.size : Int) > 4 then (some (0, false)) else ((strings_Trim.f a0 (⟨#[48, 49, 50, 51, 52, 53, 54, 55, 56, 57]⟩ : ByteArray)).bind fun t101 => (if t101.toList = ([] : List UInt8) then ((strconv_Atoi.f a0).bind fun bt102 => (some (bt102.1, true))) else (some (0, false)))))) = some (r1, r2) := h
  clear h
  by_cases c2 : a0.toList = ([] : List UInt8)
  · rw [if_pos c2] at H
    have c2b0 : (a0.toList == ([] : List UInt8)) = true := beq_iff_eq.mpr c2
    have c2b1 : (a0.toList != ([] : List UInt8)) = false := bne_eq_false_iff_eq.mpr c2
    clear c2
    simp only [Option.some.injEq, Prod.mk.injEq] at H
    obtain ⟨rfl, rfl⟩ := H
    go_enter Tryd.func20, Tryd.ntmps20
    go_wp2
    go_ret2
    exact ⟨by first | rfl | (simp [errW_none, errW_some] <;> rfl) | (simp [*, errW_none, errW_some] <;> rfl), by repeat (first | (with_reducible first | exact HB.out | apply below_alloc | apply pw_below_drewN | apply below_drew1) | exact HB.out)⟩
  · rw [if_neg c2] at H
    have c2b0 : (a0.toList == ([] : List UInt8)) = false := beq_eq_false_iff_ne.mpr c2
    have c2b1 : (a0.toList != ([] : List UInt8)) = true := bne_iff_ne.mpr c2
    by_cases c3 : (a0.size : Int) > 4
    · rw [if_pos c3] at H
      have c3b0 : decide (4 < (a0.size : Int)) = true := decide_eq_true c3
      have c3b1 : decide (4 < a0.size) = true := decide_eq_true (by omega)
      clear c3
      simp only [Option.some.injEq, Prod.mk.injEq] at H
      obtain ⟨rfl, rfl⟩ := H
      go_enter Tryd.func20, Tryd.ntmps20
      go_wp2
      go_ret2
      exact ⟨by first | rfl | (simp [errW_none, errW_some] <;> rfl) | (simp [*, errW_none, errW_some] <;> rfl), by repeat (first | (with_reducible first | exact HB.out | apply below_alloc | apply pw_below_drewN | apply below_drew1) | exact HB.out)⟩
    · rw [if_neg c3] at H
      have c3b0 : decide (4 < (a0.size : Int)) = false := decide_eq_false c3
      have c3b1 : decide (4 < a0.size) = false := decide_eq_false (by omega)
      clear c3
      replace H := Option.bind_eq_some_iff.mp H
      obtain ⟨t101, A40, H⟩ := H
      replace H : (if t101.toList = ([] : List UInt8) then ((strconv_Atoi.f a0).bind fun bt102 => (some (bt102.1, true))) else (some (0, false))) = some (r1, r2) := H
      have A4 := Aside0.mk A40
      clear A40
      by_cases c5 : t101.toList = ([] : List UInt8)
      · rw [if_pos c5] at H
        have c5b0 : (t101.toList == ([] : List UInt8)) = true := beq_iff_eq.mpr c5
        have c5b1 : (t101.toList != ([] : List UInt8)) = false := bne_eq_false_iff_eq.mpr c5
        clear c5
        replace H := Option.bind_eq_some_iff.mp H
        obtain ⟨⟨t102, t103⟩, A60, H⟩ := H
        replace H : (some (t102, true)) = some (r1, r2) := H
        have A6 := Aside0.mk A60
        clear A60
        simp only [Option.some.injEq, Prod.mk.injEq] at H
        obtain ⟨rfl, rfl⟩ := H
        go_enter Tryd.func20, Tryd.ntmps20
        go_wp2_with (first | (go_at_call 25; (with_reducible refine (strings_Trim.calls a0 (⟨#[48, 49, 50, 51, 52, 53, 54, 55, 56, 57]⟩ : ByteArray) t101 _ A4.out).mono ?_); rintro e w7 ⟨rfl, hb⟩; have n0_ := Aside0.mk (below_step (by repeat (first | (with_reducible first | exact HB.out | apply below_alloc | apply pw_below_drewN | apply below_drew1) | exact HB.out)) hb); clear HB; have HB := n0_; clear n0_; (try clear hb); (try clear hb2); (try clear hk); (try clear hi)) | ((with_reducible refine gate_callee (f := 26) rfl ?_); refine goesL_ (some 20) rfl rfl Tryd.func26 (by kernel_rfl) rfl #[.string a0] rfl (by (try simp only [List.map_toArray, List.map_cons, List.map_nil]); first | done | rfl | (simp only [List.length_drop, List.length_take]; rfl)) ?_; (with_reducible refine (strconv_Atoi.calls a0 t102 t103 _ A6.out).mono ?_); rintro e w8 ⟨rfl, hb⟩; refine ⟨_, rfl, ?_⟩; have n0_ := Aside0.mk (below_step (by repeat (first | (with_reducible first | exact HB.out | apply below_alloc | apply pw_below_drewN | apply below_drew1) | exact HB.out)) hb); clear HB; have HB := n0_; clear n0_; (try clear hb); (try clear hb2); (try clear hk); (try clear hi); (try simp only [errW_none, errW_some])))
        go_ret2
        exact ⟨by first | rfl | (simp [errW_none, errW_some] <;> rfl) | (simp [*, errW_none, errW_some] <;> rfl), by repeat (first | (with_reducible first | exact HB.out | apply below_alloc | apply pw_below_drewN | apply below_drew1) | exact HB.out)⟩
      · rw [if_neg c5] at H
        have c5b0 : (t101.toList == ([] : List UInt8)) = false := beq_eq_false_iff_ne.mpr c5
        have c5b1 : (t101.toList != ([] : List UInt8)) = true := bne_iff_ne.mpr c5
        simp only [Option.some.injEq, Prod.mk.injEq] at H
        obtain ⟨rfl, rfl⟩ := H
        go_enter Tryd.func20, Tryd.ntmps20
        go_wp2_with (first | (go_at_call 25; (with_reducible refine (strings_Trim.calls a0 (⟨#[48, 49, 50, 51, 52, 53, 54, 55, 56, 57]⟩ : ByteArray) t101 _ A4.out).mono ?_); rintro e w9 ⟨rfl, hb⟩; have n0_ := Aside0.mk (below_step (by repeat (first | (with_reducible first | exact HB.out | apply below_alloc | apply pw_below_drewN | apply below_drew1) | exact HB.out)) hb); clear HB; have HB := n0_; clear n0_; (try clear hb); (try clear hb2); (try clear hk); (try clear hi)))
        go_ret2
        exact ⟨by first | rfl | (simp [errW_none, errW_some] <;> rfl) | (simp [*, errW_none, errW_some] <;> rfl), by repeat (first | (with_reducible first | exact HB.out | apply below_alloc | apply pw_below_drewN | apply below_drew1) | exact HB.out)⟩

/-! ### shell_fits: function 18 -/
def shell_fits.f (a0 : Int) (a1 : ByteArray) : Option (Bool) := if a0 = 68 then ((shell_number.f a1).bind fun bt104 => (some bt104.2)) else (some (decide ((a1.size : Int) ≤ 20)))
set_option maxHeartbeats 8000000 in
set_option maxRecDepth 100000 in
theorem shell_fits.calls (a0 : Int) (a1 : ByteArray) (r : Bool) (w : World) (h : shell_fits.f a0 a1 = some r) :
    Calls Tryd.prog 18 #[.int .u8 a0, .string a1] w fun e w' => e = .returned (.bool r) ∧ Below w.heap.size w w' := by
  have HB := Aside0.mk (Below.refl w.heap.size w)
  have H : (if a0 = 68 then ((shell_number.f a1).bind fun bt104 => (some bt104.2)) else (some (decide ((a1.size : Int) ≤ 20)))) = some r := h
  clear h
  by_cases c3 : a0 = 68
  · rw [if_pos c3] at H
    have c3b0 : (a0 == 68) = true := beq_iff_eq.mpr c3
    have c3b1 : (a0 != 68) = false := bne_eq_false_iff_eq.mpr c3
    clear c3
    replace H := Option.bind_eq_some_iff.mp H
    obtain ⟨⟨t104, t105⟩, A40, H⟩ := H
    replace H : (some t105) = some r := H
    have A4 := Aside0.mk A40
    clear A40
    obtain rfl := Option.some.inj H
    go_enter Tryd.func18, Tryd.ntmps18
    go_wp2_with (first | ((with_reducible refine gate_callee (f := 20) rfl ?_); refine goesL_ (some 11) rfl rfl Tryd.func20 (by kernel_rfl) rfl #[.string a1] rfl (by (try simp only [List.map_toArray, List.map_cons, List.map_nil]); first | done | rfl | (simp only [List.length_drop, List.length_take]; rfl)) ?_; (with_reducible refine (shell_number.calls a1 t104 t105 _ A4.out).mono ?_); rintro e w5 ⟨rfl, hb⟩; refine ⟨_, rfl, ?_⟩; have n0_ := Aside0.mk (below_step (by repeat (first | (with_reducible first | exact HB.out | apply below_alloc | apply pw_below_drewN | apply below_drew1) | exact HB.out)) hb); clear HB; have HB := n0_; clear n0_; (try clear hb); (try clear hb2); (try clear hk); (try clear hi)))
    go_ret
    exact ⟨by first | rfl | (simp [errW_none, errW_some] <;> rfl) | (simp [*, errW_none, errW_some] <;> rfl), by repeat (first | (with_reducible first | exact HB.out | apply below_alloc | apply pw_below_drewN | apply below_drew1) | exact HB.out)⟩
  · rw [if_neg c3] at H
    have c3b0 : (a0 == 68) = false := beq_eq_false_iff_ne.mpr c3
    have c3b1 : (a0 != 68) = true := bne_iff_ne.mpr c3
    obtain rfl := Option.some.inj H
    go_enter Tryd.func18, Tryd.ntmps18
    go_wp2
    go_ret
    exact ⟨by first | rfl | (simp [errW_none, errW_some] <;> rfl) | (simp [*, errW_none, errW_some] <;> rfl), by repeat (first | (with_reducible first | exact HB.out | apply below_alloc | apply pw_below_drewN | apply below_drew1) | exact HB.out)⟩

-- NOT PRINTED: function 11 (shell_parsed)

-- NOT PRINTED: function 6 (shell_script)

/-! ### shell_Parse: function 4 -/


/-- whether the words behind the first one fit, from kind i on -/
def shell_parsed.fitsL (kinds : ByteArray) (ws : List ByteArray) : Nat → Nat → Option Bool
  | 0, _ => some true
  | n + 1, i => (shell_fits.f (bt kinds i) (rdOf ByteArray.empty ws (i + 1))).bind fun b => if b = true then shell_parsed.fitsL kinds ws n (i + 1) else some false
/-- a line's word, its further words, and whether it can be; nothing: no command -/
def shell_parsed.g (k : Nat) (ws : List ByteArray) : Option (ByteArray × List ByteArray × Bool) :=
  if ws.length = 0 then some (⟨#[]⟩, [], true) else
  if 0 < (rdOf ByteArray.empty ws 0).size ∧ ws.length ≤ 4294967296 then
    (if bt (rdOf ByteArray.empty ws 0) 0 = 35 then some (⟨#[]⟩, [], true) else
      (shell_shape.f k (rdOf ByteArray.empty ws 0)).bind fun s =>
        if s.2 = true then (if s.1.size = ws.length - 1 then
          (shell_parsed.fitsL s.1 ws s.1.size 0).bind fun b => if b = true then some (rdOf ByteArray.empty ws 0, ws.drop 1, true) else some (⟨#[]⟩, [], false)
          else some (⟨#[]⟩, [], false))
        else some (⟨#[]⟩, [], false))
  else none
def shell_parsed.f (k : Nat) (a0 : ByteArray) : Option (ByteArray × List ByteArray × Bool) := (strings_FieldsFunc.f a0).bind (shell_parsed.g k)



theorem blk3 {w1 : World} {g t : Nat} {a b c : Value} (h : w1.heap[g]? = some (.cells #[a, b, c] t (0, 0))) :
    w1.cell? ⟨g, 0, none⟩ = some a ∧ w1.cell? ⟨g, 1, none⟩ = some b ∧ w1.cell? ⟨g, 2, none⟩ = some c ∧ w1.frozen? ⟨g, 0, none⟩ = false ∧ w1.frozen? ⟨g, 1, none⟩ = false ∧ w1.frozen? ⟨g, 2, none⟩ = false := by
  simp [World.cell?, World.frozen?, h]
theorem put3 {w1 : World} {g t : Nat} {a b c x y z : Value} (h : w1.heap[g]? = some (.cells #[a, b, c] t (0, 0))) :
    (((w1.setCell ⟨g, 0, none⟩ x).setCell ⟨g, 1, none⟩ y).setCell ⟨g, 2, none⟩ z).heap[g]? = some (.cells #[x, y, z] t (0, 0)) := by
  simp [World.setCell, Array.getElem?_modify, h]
theorem f_put3 {w1 : World} {g n : Nat} {A : Option Addr} {l : List ByteArray} {x y z : Value} (h : Kd.F Kd.string w1 (fun k_ => g + 1 ≤ k_) A n l) :
    Kd.F Kd.string (((w1.setCell ⟨g, 0, none⟩ x).setCell ⟨g, 1, none⟩ y).setCell ⟨g, 2, none⟩ z) (fun k_ => g + 1 ≤ k_) A n l :=
  Kd.F_step h (fun k hk _ => by
    have hne : k ≠ g := by omega
    rw [Below.heap_setCell _ _ _ _ (by simpa using hne), Below.heap_setCell _ _ _ _ (by simpa using hne), Below.heap_setCell _ _ _ _ (by simpa using hne)])
theorem below3 {w w1 : World} {g : Nat} {x y z : Value} (h : Below w.heap.size w w1) (hg : w.heap.size ≤ g) :
    Below w.heap.size w (((w1.setCell ⟨g, 0, none⟩ x).setCell ⟨g, 1, none⟩ y).setCell ⟨g, 2, none⟩ z) :=
  ((h.setCell hg _).setCell hg _).setCell hg _
/-- what the result's slot is behind a call that leaves it alone -/
theorem slot_kept {w w1 : World} {a b c : Value} (hb : Below (w.alloc (.cells #[a, b, c] 28)).heap.size (w.alloc (.cells #[a, b, c] 28)) w1) :
    w1.heap[w.heap.size]? = some (.cells #[a, b, c] 28 (0, 0)) ∧ Below w.heap.size w w1 :=
  ⟨(hb.block w.heap.size (by simp)).trans (heap_alloc_new w _), ((Below.refl w.heap.size w).alloc (Nat.le_refl _) _).trans (hb.mono (by simp))⟩

/-- what a line's reading hands back: the word, the further words (a row that lies in new memory), whether the line can be -/
def shell_parsed.Post (s : ByteArray) (l : List ByteArray) (b : Bool) (w : World) (e : Ending) (w' : World) : Prop :=
  ∃ (A : Option Addr) (c : Nat), e = .returned (.tuple #[.agg #[.int .i64 0, .string s, .slice A l.length c], .bool b]) ∧ l.length ≤ c ∧ Kd.F Kd.string w' (fun k_ => w.heap.size ≤ k_) A l.length l ∧ Below w.heap.size w w'

set_option maxHeartbeats 2000000 in
set_option maxRecDepth 100000 in
theorem shell_parsed.none_ (a0 : ByteArray) (w : World) (ws : List ByteArray) (hf : strings_FieldsFunc.f a0 = some ws) (h0 : ws.length = 0) :
    Calls Tryd.prog 11 #[.string a0] w fun e w' => e = .returned (.tuple #[.agg #[.int .i64 0, .string ⟨#[]⟩, .slice none 0 0], .bool true]) ∧ Below w.heap.size w w' := by
  have hc := strings_FieldsFunc.calls a0 ws (w.alloc (.cells #[.int .i64 0, .string ⟨#[]⟩, .slice none 0 0] 28)) hf
  obtain rfl := List.eq_nil_of_length_eq_zero h0
  go_enter Tryd.func11, Tryd.ntmps11
  go_wp2_with (go_at_call 15; refine hc.mono ?_; rintro e w1 ⟨v0, rfl, hr, hb⟩; obtain ⟨A, c, rfl⟩ := Kd.R_slice hr; clear hr; obtain ⟨hh0, hb1⟩ := slot_kept hb; have hh := Aside0.mk hh0; clear hh0 hb; obtain ⟨c0, c1, c2, f0, f1, f2⟩ := blk3 hh.out)
  refine bodyPost_ret (results_ct rfl _ _ w.heap.size 28 #[.int .i64 0, .string ⟨#[]⟩, .slice none 0 0] (0, 0) _ rfl (put3 hh.out) Tryd.underlying28 rfl (by kernel_rfl)) rfl ?_
  exact ⟨rfl, below3 hb1 (Nat.le_refl _)⟩

theorem ws_len {ws : List ByteArray} (h : ¬ ws.length = 0) : 0 < ws.length := by omega

set_option maxHeartbeats 2000000 in
set_option maxRecDepth 100000 in
/-- A line that begins with #: no command. -/
theorem shell_parsed.hash_ (a0 : ByteArray) (w : World) (ws : List ByteArray) (hf : strings_FieldsFunc.f a0 = some ws) (h0 : ¬ ws.length = 0) (h1 : 0 < (rdOf ByteArray.empty ws 0).size) (h2 : bt (rdOf ByteArray.empty ws 0) 0 = 35) :
    Calls Tryd.prog 11 #[.string a0] w fun e w' => e = .returned (.tuple #[.agg #[.int .i64 0, .string ⟨#[]⟩, .slice none 0 0], .bool true]) ∧ Below w.heap.size w w' := by
  have hc := strings_FieldsFunc.calls a0 ws (w.alloc (.cells #[.int .i64 0, .string ⟨#[]⟩, .slice none 0 0] 28)) hf
  have hl : (0 : Int) < (ws.length : Int) := by omega
  have hz : ((ws.length : Int) == 0) = false := beq_eq_false_iff_ne.2 (by omega)
  have hq : 0 < ws.length := by omega
  have hx : ∀ h : 0 < (rdOf ByteArray.empty ws 0).size, (((rdOf ByteArray.empty ws 0)[0]'h).toNat : Int) = 35 := fun h => (bt_at (rdOf ByteArray.empty ws 0) 0 h).trans h2
  clear h2 h0
  go_enter Tryd.func11, Tryd.ntmps11
  go_wp2_with (go_at_call 15; refine hc.mono ?_; rintro e w1 ⟨v0, rfl, hr, hb⟩; obtain ⟨A, c, rfl⟩ := Kd.R_slice hr; obtain ⟨ad, rfl, hcell⟩ := Kd.at_string (Kd.R_reads' hr).2.2 0 (by omega) hl; rw [show ((0 : Int)).toNat = 0 from rfl, Addr.add_zero'] at hcell; clear hr; obtain ⟨hh0, hb1⟩ := slot_kept hb; have hh := Aside0.mk hh0; clear hh0 hb; obtain ⟨c0, c1, c2, f0, f1, f2⟩ := blk3 hh.out)
  refine bodyPost_ret (results_ct rfl _ _ w.heap.size 28 #[.int .i64 0, .string ⟨#[]⟩, .slice none 0 0] (0, 0) _ rfl (put3 hh.out) Tryd.underlying28 rfl (by kernel_rfl)) rfl ?_
  exact ⟨rfl, below3 hb1 (Nat.le_refl _)⟩

set_option maxHeartbeats 2000000 in
set_option maxRecDepth 100000 in
/-- A word that is none of the table's, or too many or too few words behind it. -/
theorem shell_parsed.no_ (k : Nat) (a0 : ByteArray) (w : World) (ws : List ByteArray) (kinds : ByteArray) (ok : Bool) (hf : strings_FieldsFunc.f a0 = some ws) (h0 : ¬ ws.length = 0) (h1 : 0 < (rdOf ByteArray.empty ws 0).size) (hw : ws.length ≤ 4294967296) (h2 : ¬ bt (rdOf ByteArray.empty ws 0) 0 = 35)
    (hs : shell_shape.f k (rdOf ByteArray.empty ws 0) = some (kinds, ok)) (hno : ok = true → kinds.size ≠ ws.length - 1) :
    Calls Tryd.prog 11 #[.string a0] w fun e w' => e = .returned (.tuple #[.agg #[.int .i64 0, .string ⟨#[]⟩, .slice none 0 0], .bool false]) ∧ Below w.heap.size w w' := by
  have hc := strings_FieldsFunc.calls a0 ws (w.alloc (.cells #[.int .i64 0, .string ⟨#[]⟩, .slice none 0 0] 28)) hf
  have hS := fun W => shell_shape.calls k (rdOf ByteArray.empty ws 0) kinds ok W hs
  have hl : (0 : Int) < (ws.length : Int) := by omega
  have hz : ((ws.length : Int) == 0) = false := beq_eq_false_iff_ne.2 (by omega)
  have hq : 0 < ws.length := by omega
  have hl1 : (ws.length : Int) ≤ 4294967296 := by omega
  have hx : ∀ h : 0 < (rdOf ByteArray.empty ws 0).size, (((rdOf ByteArray.empty ws 0)[0]'h).toNat : Int) = bt (rdOf ByteArray.empty ws 0) 0 := fun h => bt_at (rdOf ByteArray.empty ws 0) 0 h
  have hy : (bt (rdOf ByteArray.empty ws 0) 0 == 35) = false := beq_eq_false_iff_ne.2 h2
  clear h2 h0 hs hf
  cases ok with
  | false =>
    clear hno
    go_enter Tryd.func11, Tryd.ntmps11
    go_wp2_with (first
      | (go_at_call 15; refine hc.mono ?_; rintro e w1 ⟨v0, rfl, hr, hb⟩; obtain ⟨A, c, rfl⟩ := Kd.R_slice hr; obtain ⟨ad, rfl, hcell⟩ := Kd.at_string (Kd.R_reads' hr).2.2 0 (by omega) hl; rw [show ((0 : Int)).toNat = 0 from rfl, Addr.add_zero'] at hcell; clear hr; obtain ⟨hh0, hb1⟩ := slot_kept hb; have hh := Aside0.mk hh0; clear hh0 hb; obtain ⟨c0, c1, c2, f0, f1, f2⟩ := blk3 hh.out)
      | (go_at_call 17; refine (hS _).mono ?_; rintro e w2 ⟨rfl, ⟨nd, rfl⟩⟩))
    refine bodyPost_ret (results_ct rfl _ _ w.heap.size 28 #[.int .i64 0, .string ⟨#[]⟩, .slice none 0 0] (0, 0) _ rfl (put3 (blk_drewN hh.out _)) Tryd.underlying28 rfl (by kernel_rfl)) rfl ?_
    exact ⟨rfl, below3 (pw_below_drewN hb1 _) (Nat.le_refl _)⟩
  | true =>
    have hn : ((kinds.size : Int) != (ws.length : Int) - 1) = true := bne_iff_ne.2 (by have := hno rfl; omega)
    clear hno
    go_enter Tryd.func11, Tryd.ntmps11
    go_wp2_with (first
      | (go_at_call 15; refine hc.mono ?_; rintro e w1 ⟨v0, rfl, hr, hb⟩; obtain ⟨A, c, rfl⟩ := Kd.R_slice hr; obtain ⟨ad, rfl, hcell⟩ := Kd.at_string (Kd.R_reads' hr).2.2 0 (by omega) hl; rw [show ((0 : Int)).toNat = 0 from rfl, Addr.add_zero'] at hcell; clear hr; obtain ⟨hh0, hb1⟩ := slot_kept hb; have hh := Aside0.mk hh0; clear hh0 hb; obtain ⟨c0, c1, c2, f0, f1, f2⟩ := blk3 hh.out)
      | (go_at_call 17; refine (hS _).mono ?_; rintro e w2 ⟨rfl, ⟨nd, rfl⟩⟩))
    refine bodyPost_ret (results_ct rfl _ _ w.heap.size 28 #[.int .i64 0, .string ⟨#[]⟩, .slice none 0 0] (0, 0) _ rfl (put3 (blk_drewN hh.out _)) Tryd.underlying28 rfl (by kernel_rfl)) rfl ?_
    exact ⟨rfl, below3 (pw_below_drewN hb1 _) (Nat.le_refl _)⟩

set_option maxHeartbeats 2000000 in
set_option maxRecDepth 100000 in
/-- The words behind the first one are looked at, kind by kind. -/
theorem shell_parsed.yes_ (k : Nat) (a0 : ByteArray) (w : World) (ws : List ByteArray) (kinds : ByteArray) (b : Bool) (hf : strings_FieldsFunc.f a0 = some ws) (h0 : ¬ ws.length = 0) (h1 : 0 < (rdOf ByteArray.empty ws 0).size) (hw : ws.length ≤ 4294967296) (h2 : ¬ bt (rdOf ByteArray.empty ws 0) 0 = 35)
    (hs : shell_shape.f k (rdOf ByteArray.empty ws 0) = some (kinds, true)) (hn0 : kinds.size = ws.length - 1) (hb0 : shell_parsed.fitsL kinds ws kinds.size 0 = some b) (s0 : ByteArray) (l0 : List ByteArray) (hsl : Aside0 ((b = true → s0 = rdOf ByteArray.empty ws 0 ∧ l0 = ws.drop 1) ∧ (b = false → s0 = ⟨#[]⟩ ∧ l0 = []))) :
    Calls Tryd.prog 11 #[.string a0] w (shell_parsed.Post s0 l0 b w) := by
  have hc := strings_FieldsFunc.calls a0 ws (w.alloc (.cells #[.int .i64 0, .string ⟨#[]⟩, .slice none 0 0] 28)) hf
  have hS := fun W => shell_shape.calls k (rdOf ByteArray.empty ws 0) kinds true W hs
  have hl : (0 : Int) < (ws.length : Int) := by omega
  have hz : ((ws.length : Int) == 0) = false := beq_eq_false_iff_ne.2 (by omega)
  have hq : 0 < ws.length := by omega
  have hl1 : (ws.length : Int) ≤ 4294967296 := by omega
  have hx : ∀ h : 0 < (rdOf ByteArray.empty ws 0).size, (((rdOf ByteArray.empty ws 0)[0]'h).toNat : Int) = bt (rdOf ByteArray.empty ws 0) 0 := fun h => bt_at (rdOf ByteArray.empty ws 0) 0 h
  have hy : (bt (rdOf ByteArray.empty ws 0) 0 == 35) = false := beq_eq_false_iff_ne.2 h2
  have hn : ((kinds.size : Int) != (ws.length : Int) - 1) = false := bne_eq_false_iff_eq.2 (by omega)
  have hN := Aside0.mk hn0
  clear h2 h0 hs hf hn0
  have hB := Aside0.mk hb0
  clear hb0
  go_enter Tryd.func11, Tryd.ntmps11
  go_wp2_with (first
      | (go_at_call 15; refine hc.mono ?_; rintro e w1 ⟨v0, rfl, hr, hb⟩; obtain ⟨A, c, rfl⟩ := Kd.R_slice hr; obtain ⟨ad, rfl, hcell⟩ := Kd.at_string (Kd.R_reads' hr).2.2 0 (by omega) hl; rw [show ((0 : Int)).toNat = 0 from rfl, Addr.add_zero'] at hcell; have hR := Aside0.mk hr; clear hr; obtain ⟨hh0, hb1⟩ := slot_kept hb; have hh := Aside0.mk hh0; clear hh0 hb; obtain ⟨c0, c1, c2, f0, f1, f2⟩ := blk3 hh.out)
      | (go_at_call 17; refine (hS _).mono ?_; rintro e w2 ⟨rfl, ⟨nd, rfl⟩⟩))
  have hF0 := Aside0.mk (Kd.F_mono (Kd.F_drop (Kd.F_mono (Kd.R_F (Kd.R_bound hR.out)) (fun _ hk => ⟨hk.2.1, hk⟩)) : Kd.F Kd.string w1 (fun k_ => (w.alloc (.cells #[.int .i64 0, .string ⟨#[]⟩, .slice none 0 0] 28)).heap.size ≤ k_) (some ad) ws.length ws) (fun k_ hk => (by have h9 := hk; simp at h9; exact h9 : w.heap.size + 1 ≤ k_)))
  have hcap := (Kd.R_reads' hR.out).2.1
  have hbD : Below w.heap.size w (w1.drewN nd) := pw_below_drewN hb1 _
  have hFD := Aside0.mk (Kd.F_below hF0.out (pw_below_drewN (Below.refl w1.heap.size w1) nd))
  have hhD := Aside0.mk (blk_drewN hh.out nd)
  clear hcell c0 c1 c2 f0 f1 f2 hF0 hc hS hx hy hR hb1 hh
  go_loopw [41] (fun i wr => ∃ j : Nat, i = .int .i64 j ∧ j ≤ kinds.size ∧ Aside0 (shell_parsed.fitsL kinds ws (kinds.size - j) j = some b) ∧ Aside0 (wr.heap[w.heap.size]? = some (.cells #[.int .i64 0, .string ⟨#[]⟩, .slice none 0 0] 28 (0, 0))) ∧ Aside0 (Kd.F Kd.string wr (fun k_ => w.heap.size + 1 ≤ k_) (some ad) ws.length ws) ∧ Aside0 (Below w.heap.size w wr)) (fun i _ => kinds.size - (intOf i).toNat)
  case atStart => exact ⟨0, rfl, Nat.zero_le _, hB, hhD, hFD, ⟨hbD⟩⟩
  case round =>
    obtain ⟨j, rfl, hj, hL, hh, hF, hb⟩ := hrel
    by_cases hlt : j < kinds.size
    · have hsz := hN.out
      obtain ⟨n, hn9⟩ : ∃ n, kinds.size - j = n + 1 := ⟨kinds.size - j - 1, by omega⟩
      have hL2 := hL.out
      rw [hn9] at hL2
      obtain ⟨b1, hf1, hL3⟩ := Option.bind_eq_some_iff.mp hL2
      have cF := fun W => shell_fits.calls (bt kinds j) (rdOf ByteArray.empty ws (j + 1)) b1 W hf1
      obtain ⟨ji, hji⟩ : ∃ y : Int, y = (j : Int) + 1 := ⟨_, rfl⟩
      obtain ⟨ad', e9, hcell⟩ := Kd.at_string (Kd.F_now hF.out) ji (by omega) (by omega)
      obtain rfl := Option.some.inj e9
      have hx : ∀ h : j < kinds.size, ((kinds[j]'h).toNat : Int) = bt kinds j := fun h => bt_at kinds j (by simpa using h)
      have p1 : (j : Int) < (kinds.size : Int) := by omega
      have p2 : ji < (ws.length : Int) := by omega
      have p3 : 0 ≤ ji := by omega
      have p4 : (j : Int) ≤ 4294967296 := by omega
      have e1 : IntKind.i64.wrap ((j : Int) + 1) = ji := (IntWalk.i64_in _ (by omega)).trans hji.symm
      rw [← hji] at cF
      have n9 := Aside0.mk hn9
      have e7 := Aside0.mk hji
      clear hn9 hL2 hsz hf1 e9 hL hji
      go_wp2_with fail
      go_region_with (go_at_call 18; refine (cF _).mono ?_; rintro e w3 ⟨rfl, hb3⟩)
      all_goals
        clear cF hcell e1 hx
        have hh3 := Aside0.mk (blk_below (blk_drew hh.out) hb3)
        have hF3 := Aside0.mk (Kd.F_below (Kd.F_below hF.out (below_drew (Below.refl wr.heap.size wr))) hb3)
        have hb4 := Aside0.mk ((below_drew hb.out).trans (hb3.mono hb.out.size))
        clear hh hF hb hb3
        obtain ⟨c0, c1, c2, f0, f1, f2⟩ := blk3 hh3.out
        cases b1 with
        | true =>
          clear c0 c1 c2 f0 f1 f2
          go_wp2
          go_roundw
          case rel => exact ⟨j + 1, by go_num, by omega, ⟨by rw [if_pos rfl] at hL3; rw [← hL3]; congr 1; have := n9.out; omega⟩, hh3, hF3, hb4⟩
          case measure => simp [intOf]; omega
        | false =>
          have hbf : b = false := by rw [if_neg (by decide)] at hL3; exact (Option.some.inj hL3).symm
          clear hL3
          go_wp2
          refine bodyPost_ret (results_ct rfl _ _ w.heap.size 28 #[.int .i64 0, .string ⟨#[]⟩, .slice none 0 0] (0, 0) _ rfl (put3 hh3.out) Tryd.underlying28 rfl (by kernel_rfl)) rfl ?_
          subst hbf
          obtain ⟨rfl, rfl⟩ := hsl.out.2 rfl
          exact ⟨none, 0, rfl, Nat.zero_le _, Kd.F_nil _ _ _, below3 hb4.out (Nat.le_refl _)⟩
    · have hbt : b = true := by
        have h9 := hL.out
        rw [show kinds.size - j = 0 by omega] at h9
        exact (Option.some.inj h9).symm
      obtain ⟨ad', e9, hcell⟩ := Kd.at_string (Kd.F_now hF.out) 0 (by omega) (by omega)
      obtain rfl := Option.some.inj e9
      rw [show ((0 : Int)).toNat = 0 from rfl, Addr.add_zero'] at hcell
      obtain ⟨c0, c1, c2, f0, f1, f2⟩ := blk3 hh.out
      have p1 : ¬ (j : Int) < (kinds.size : Int) := by omega
      have hcut := Aside0.mk (Kd.F_cut (m := 1) hF.out hq hcap)
      clear hL hlt e9
      go_wp2_with fail
      have hbT := Aside0.mk hbt
      clear hbt
      go_region
      all_goals go_wp2
      case inr =>
        refine bodyPost_ret (results_ct rfl _ _ w.heap.size 28 #[.int .i64 0, .string (rdOf ByteArray.empty ws 0), .slice (some (ad.add 1)) (ws.length - 1) (c - 1)] (0, 0) _ rfl (blk_drew (put3 hh.out)) Tryd.underlying28 rfl (by kernel_rfl)) rfl ?_
        obtain rfl := hbT.out
        obtain ⟨rfl, rfl⟩ := hsl.out.1 rfl
        have h2 := hcut.out
        rw [if_neg (by assumption)] at h2
        have hlen : ws.length - 1 = (ws.drop 1).length := by simp
        refine ⟨some (ad.add 1), c - 1, by rw [hlen]; rfl, by rw [← hlen]; omega, ?_, below_drew (below3 hb.out (Nat.le_refl _))⟩
        exact Kd.F_below (Kd.F_mono (f_put3 h2) (fun k_ hk => by omega)) (below_drew (Below.refl _ _))
      case inl =>
        refine bodyPost_ret (results_ct rfl _ _ w.heap.size 28 #[.int .i64 0, .string (rdOf ByteArray.empty ws 0), .slice (some ad) (ws.length - 1) 0] (0, 0) _ rfl (blk_drew (put3 hh.out)) Tryd.underlying28 rfl (by kernel_rfl)) rfl ?_
        obtain rfl := hbT.out
        obtain ⟨rfl, rfl⟩ := hsl.out.1 rfl
        have h2 := hcut.out
        rw [if_pos (by assumption)] at h2
        have hlen : ws.length - 1 = (ws.drop 1).length := by simp
        refine ⟨some ad, 0, by rw [hlen]; rfl, by rw [← hlen]; omega, ?_, below_drew (below3 hb.out (Nat.le_refl _))⟩
        exact Kd.F_below (Kd.F_mono (f_put3 h2) (fun k_ hk => by omega)) (below_drew (Below.refl _ _))

theorem shell_parsed.post_same {w : World} {b : Bool} {e : Ending} {w' : World} (h : e = .returned (.tuple #[.agg #[.int .i64 0, .string ⟨#[]⟩, .slice none 0 0], .bool b]) ∧ Below w.heap.size w w') : shell_parsed.Post ⟨#[]⟩ [] b w e w' :=
  ⟨none, 0, h.1, Nat.le_refl _, Kd.F_nil _ _ _, h.2⟩
theorem shell_parsed.calls (k : Nat) (a0 : ByteArray) (s : ByteArray) (l : List ByteArray) (b : Bool) (w : World) (h : shell_parsed.f k a0 = some (s, l, b)) :
    Calls Tryd.prog 11 #[.string a0] w (shell_parsed.Post s l b w) := by
  unfold shell_parsed.f at h
  obtain ⟨ws, hf, h⟩ := Option.bind_eq_some_iff.mp h
  unfold shell_parsed.g at h
  by_cases h0 : ws.length = 0
  · rw [if_pos h0] at h
    simp only [Option.some.injEq, Prod.mk.injEq] at h
    obtain ⟨rfl, rfl, rfl⟩ := h
    exact (shell_parsed.none_ a0 w ws hf h0).mono fun _ _ h => shell_parsed.post_same h
  rw [if_neg h0] at h
  by_cases h1 : 0 < (rdOf ByteArray.empty ws 0).size ∧ ws.length ≤ 4294967296
  case neg => rw [if_neg h1] at h; cases h
  rw [if_pos h1] at h
  by_cases h2 : bt (rdOf ByteArray.empty ws 0) 0 = 35
  · rw [if_pos h2] at h
    simp only [Option.some.injEq, Prod.mk.injEq] at h
    obtain ⟨rfl, rfl, rfl⟩ := h
    exact (shell_parsed.hash_ a0 w ws hf h0 h1.1 h2).mono fun _ _ h => shell_parsed.post_same h
  rw [if_neg h2] at h
  obtain ⟨⟨kinds, ok⟩, hs, h⟩ := Option.bind_eq_some_iff.mp h
  by_cases h3 : ok = true
  · by_cases h4 : kinds.size = ws.length - 1
    · rw [if_pos h3, if_pos h4] at h
      subst h3
      obtain ⟨b1, hb1, h⟩ := Option.bind_eq_some_iff.mp h
      by_cases h5 : b1 = true
      · rw [if_pos h5] at h
        simp only [Option.some.injEq, Prod.mk.injEq] at h
        obtain ⟨rfl, rfl, rfl⟩ := h
        subst h5
        exact shell_parsed.yes_ k a0 w ws kinds true hf h0 h1.1 h1.2 h2 hs h4 hb1 _ _ ⟨fun _ => ⟨rfl, rfl⟩, fun h => by cases h⟩
      · rw [if_neg h5] at h
        simp only [Option.some.injEq, Prod.mk.injEq] at h
        obtain ⟨rfl, rfl, rfl⟩ := h
        obtain rfl : b1 = false := by simpa using h5
        exact shell_parsed.yes_ k a0 w ws kinds false hf h0 h1.1 h1.2 h2 hs h4 hb1 _ _ ⟨fun h => (by cases h), fun _ => ⟨rfl, rfl⟩⟩
    · rw [if_pos h3, if_neg h4] at h
      simp only [Option.some.injEq, Prod.mk.injEq] at h
      obtain ⟨rfl, rfl, rfl⟩ := h
      exact (shell_parsed.no_ k a0 w ws kinds ok hf h0 h1.1 h1.2 h2 hs (fun _ => h4)).mono fun _ _ h => shell_parsed.post_same h
  · rw [if_neg h3] at h
    simp only [Option.some.injEq, Prod.mk.injEq] at h
    obtain ⟨rfl, rfl, rfl⟩ := h
    exact (shell_parsed.no_ k a0 w ws kinds ok hf h0 h1.1 h1.2 h2 hs (fun z => absurd z h3)).mono fun _ _ h => shell_parsed.post_same h


/-- the lines of a script, one behind the other: x0 what is left of it, x5 the commands so far, x6 the line's number -/
def shell_script.l (k : Nat) : Nat → ByteArray → List S28 → Int → Option (List S28 × Int × Int)
  | 0, _, _, _ => none
  | m + 1, x0, x5, x6 =>
    if x0.toList = [] then some (x5, 0, 0) else
    (strings_Cut.f x0 ⟨#[10]⟩).bind fun c => (shell_parsed.f k c.1).bind fun p =>
      if p.2.2 = true then
        (if p.1.toList = [] then shell_script.l k m c.2.1 x5 (wrap64 (x6 + 1))
         else if 300 ≤ (x5.length : Int) then some ([], x6, 300)
         else shell_script.l k m c.2.1 (x5 ++ [(⟨x6, p.1, p.2.1⟩ : S28)]) (wrap64 (x6 + 1)))
      else some ([], x6, 300)
def shell_script.f (k : Nat) (a0 : ByteArray) : Option (List S28 × Int × Int) :=
  if (a0.size : Int) > 131072 then some ([], 0, 2) else shell_script.l k k a0 [] 1

set_option maxHeartbeats 4000000 in
set_option maxRecDepth 100000 in
theorem shell_script.calls (k : Nat) (a0 : ByteArray) (r1 : List S28) (r2 : Int) (r3 : Int) (w : World) (h : shell_script.f k a0 = some (r1, r2, r3)) :
    Calls Tryd.prog 6 #[.string a0] w fun e w' => ∃ v0_ : Value, e = .returned (.tuple #[v0_, .int .i64 r2, .int .i64 r3]) ∧ Kd.N k28 28 w' w.heap.size (fun k_ => (w.heap.size ≤ k_)) v0_ r1 ∧ Below w.heap.size w w' := by
  unfold shell_script.f at h
  have HB := Aside0.mk (Below.refl w.heap.size w)
  by_cases c2 : (a0.size : Int) > 131072
  · rw [if_pos c2] at h
    simp only [Option.some.injEq, Prod.mk.injEq] at h
    obtain ⟨rfl, rfl, rfl⟩ := h
    have c2b0 : decide (131072 < (a0.size : Int)) = true := decide_eq_true c2
    clear c2
    go_enter Tryd.func6, Tryd.ntmps6
    go_wp2
    go_ret3
    exact ⟨_, rfl, Kd.N_nil _ _ _ _ _, HB.out⟩
  · rw [if_neg c2] at h
    have c2b0 : decide (131072 < (a0.size : Int)) = false := decide_eq_false c2
    clear c2
    have H' := Aside0.mk h
    clear h
    go_enter Tryd.func6, Tryd.ntmps6
    go_wp2
    go_loopg [0, 5, 6] k (fun kq v0 v5 v6 w' => ∃ (x0 : ByteArray) (x5 : List S28) (x6 : Int), v0 = .string x0 ∧ v6 = .int .i64 x6 ∧ Aside0 (shell_script.l k kq x0 x5 x6 = some (r1, r2, r3)) ∧ Aside0 (Kd.N k28 28 w' w.heap.size (fun k_ => w.heap.size ≤ k_) v5 x5) ∧ Aside0 (Below w.heap.size w w'))
    case atStart => exact ⟨a0, [], 1, rfl, rfl, H', ⟨Kd.N_nil _ _ _ _ _⟩, HB⟩
    case round =>
      clear H' HB
      obtain ⟨x0, x5, x6, rfl, rfl, HA, HO, HB⟩ := hrel
      cases gk with
      | zero => exact absurd HA.out (by simp [shell_script.l])
      | succ m =>
        have H := HA.out
        clear HA
        simp only [shell_script.l] at H
        by_cases c3 : x0.toList = []
        · rw [if_pos c3] at H
          simp only [Option.some.injEq, Prod.mk.injEq] at H
          obtain ⟨rfl, rfl, rfl⟩ := H
          go_wp2
          go_ret3
          exact ⟨_, rfl, HO.out, HB.out⟩
        · rw [if_neg c3] at H
          have c3b : (x0.toList == []) = false := by simpa using c3
          obtain ⟨⟨ln, tx, fd⟩, hcut, H⟩ := Option.bind_eq_some_iff.mp H
          obtain ⟨⟨s, l, b⟩, hpar, H⟩ := Option.bind_eq_some_iff.mp H
          have cC := fun W => strings_Cut.calls x0 ⟨#[10]⟩ ln tx fd W hcut
          have cP := fun W => shell_parsed.calls k ln s l b W hpar
          clear hcut hpar
          obtain ⟨A5, q5, e5⟩ := Kd.N_slice HO.out
          subst e5
          by_cases hb : b = true
          · subst hb
            by_cases hs : s.toList = []
            · -- no command: the next line
              have H1 : shell_script.l k m tx x5 (wrap64 (x6 + 1)) = some (r1, r2, r3) := by simpa [hs] using H
              have H' := Aside0.mk H1
              clear H H1
              have hsb : (s.toList == []) = true := by simpa using hs
              clear hs
              go_wp2_with (first
                | (go_at_call 10; refine (cC _).mono ?_; rintro e w2 ⟨rfl, ⟨nd, rfl⟩⟩)
                | (go_at_call 11; refine (cP _).mono ?_; rintro e w3 ⟨A, c, rfl, hlc, hF, hb3⟩))
              go_roundg m
              case measure => omega
              case rel => exact ⟨tx, x5, wrap64 (x6 + 1), rfl, rfl, H', ⟨Kd.N_alloc (Kd.N_below (Kd.N_drewN HO.out _) hb3) _⟩, ⟨below_alloc ((pw_below_drewN HB.out nd).trans (hb3.mono HB.out.size)) _⟩⟩
            · have hsb : (s.toList == []) = false := by simpa using hs
              by_cases hn : 300 ≤ (x5.length : Int)
              · have H1 : (([] : List S28), x6, (300 : Int)) = (r1, r2, r3) := by simpa [hs, hn] using H
                clear H hs
                simp only [Prod.mk.injEq] at H1
                obtain ⟨rfl, rfl, rfl⟩ := H1
                go_wp2_with (first
                  | (go_at_call 10; refine (cC _).mono ?_; rintro e w2 ⟨rfl, ⟨nd, rfl⟩⟩)
                  | (go_at_call 11; refine (cP _).mono ?_; rintro e w3 ⟨A, c, rfl, hlc, hF, hb3⟩))
                go_ret3
                exact ⟨_, rfl, Kd.N_nil _ _ _ _ _, below_alloc ((pw_below_drewN HB.out nd).trans (hb3.mono HB.out.size)) _⟩
              · have H1 : shell_script.l k m tx (x5 ++ [(⟨x6, s, l⟩ : S28)]) (wrap64 (x6 + 1)) = some (r1, r2, r3) := by simpa [hs, hn] using H
                have H' := Aside0.mk H1
                clear H H1 hs
                have hcard : (x5.length + 1) * 48 ≤ 140737488355328 := by omega
                go_wp2_with (first
                  | (at_builtin; go_loud (refine Kd.N_append k28 (w0 := w) w.heap.size rfl (.tmp 44) (.tmp 46) 22 28 (.agg #[(.int .i64 0), (.string ⟨#[]⟩), (.slice none 0 0)]) 48 rfl Tryd.underlying22 info28 rfl (by decide) (by omega) (.slice A5 x5.length q5) x5 (⟨x6, s, l⟩ : S28) [.int .i64 x6, .string s, .slice A l.length c] (fun k_ => w.heap.size ≤ k_) (fun k_ => wr.heap.size ≤ k_) rfl ?aX ?aP ?aK ?aF ?aO ?aB ?aS hcard ?_)
                     case aX => go_simp
                     case aP => exact k28_mkF _ _ (⟨x6, s, l⟩ : S28) hlc (Kd.F_below hF (below_alloc (Below.refl _ _) _))
                     case aK => exact fun k_ hk => ⟨Nat.le_trans (below_size HB.out) hk, fun he => Nat.lt_irrefl _ (Nat.lt_of_lt_of_le (Kd.N_lt HO.out k_ he.symm) hk)⟩
                     case aF => exact fun k_ hk => Nat.le_trans (below_size (below_alloc ((pw_below_drewN HB.out nd).trans (hb3.mono HB.out.size)) _)) hk
                     case aO => exact Kd.N_alloc (Kd.N_below (Kd.N_drewN HO.out _) hb3) _
                     case aB => exact below_alloc ((pw_below_drewN HB.out nd).trans (hb3.mono HB.out.size)) _
                     case aS => exact below_size (below_alloc ((pw_below_drewN HB.out nd).trans (hb3.mono HB.out.size)) _)
                     intro v1 w5 ho hb5 hg hat)
                  | (go_at_call 10; refine (cC _).mono ?_; rintro e w2 ⟨rfl, ⟨nd, rfl⟩⟩)
                  | (go_at_call 11; refine (cP _).mono ?_; rintro e w3 ⟨A, c, rfl, hlc, hF, hb3⟩))
                go_roundg m
                case measure => omega
                case rel => exact ⟨tx, x5 ++ [(⟨x6, s, l⟩ : S28)], wrap64 (x6 + 1), rfl, rfl, H', ⟨ho⟩, ⟨hb5⟩⟩
          · obtain rfl : b = false := by simpa using hb
            have H1 : (([] : List S28), x6, (300 : Int)) = (r1, r2, r3) := by simpa using H
            clear H hb
            simp only [Prod.mk.injEq] at H1
            obtain ⟨rfl, rfl, rfl⟩ := H1
            go_wp2_with (first
              | (go_at_call 10; refine (cC _).mono ?_; rintro e w2 ⟨rfl, ⟨nd, rfl⟩⟩)
              | (go_at_call 11; refine (cP _).mono ?_; rintro e w3 ⟨A, c, rfl, hlc, hF, hb3⟩))
            go_ret3
            exact ⟨_, rfl, Kd.N_nil _ _ _ _ _, below_alloc ((pw_below_drewN HB.out nd).trans (hb3.mono HB.out.size)) _⟩

theorem shell_parsed.mono : ∀ a0 k, LeO (shell_parsed.f k a0) (shell_parsed.f (k + 1) a0) := by
  intro a0 k
  unfold shell_parsed.f
  refine LeO.bind (LeO.refl _) (fun ws => ?_)
  unfold shell_parsed.g
  refine LeO.ite (LeO.refl _) (LeO.ite (LeO.ite (LeO.refl _) (LeO.bind (shell_shape.mono _ _) (fun _ => LeO.refl _))) (LeO.refl _))
theorem shell_script.mono_l (k : Nat) : ∀ m x0 x5 x6, LeO (shell_script.l k m x0 x5 x6) (shell_script.l (k + 1) (m + 1) x0 x5 x6)
  | 0, _, _, _ => by unfold shell_script.l; exact LeO.none _
  | m + 1, x0, x5, x6 => by
    rw [shell_script.l, shell_script.l]
    refine LeO.ite (LeO.refl _) (LeO.bind (LeO.refl _) (fun c => LeO.bind (shell_parsed.mono _ _) (fun p => LeO.ite (LeO.ite (shell_script.mono_l k m _ _ _) (LeO.ite (LeO.refl _) (shell_script.mono_l k m _ _ _))) (LeO.refl _))))
def shell_Parse.f (k : Nat) (a0 : ByteArray) : Option ((List (S28)) × Int × Int) := shell_script.f k a0
theorem shell_Parse.mono : ∀ a0 k, LeO (shell_Parse.f k a0) (shell_Parse.f (k + 1) a0) := by
  intro a0 k
  unfold shell_Parse.f shell_script.f
  exact LeO.ite (LeO.refl _) (shell_script.mono_l k k _ _ _)
theorem shell_Parse.calls (k : Nat) (a0 : ByteArray) (r1 : List (S28)) (r2 : Int) (r3 : Int) (w : World) (h : shell_Parse.f k a0 = some (r1, r2, r3)) :
    Calls Tryd.prog 4 #[.string a0] w fun e w' => ∃ v0_ : Value, e = .returned (.tuple #[v0_, .int .i64 r2, .int .i64 r3]) ∧ Kd.N k28 28 w' w.heap.size (fun k_ => (w.heap.size ≤ k_)) v0_ r1 ∧ Below w.heap.size w w' := by
  have hc := shell_script.calls k a0 r1 r2 r3 w h
  go_enter Tryd.func4, Tryd.ntmps4
  go_wp2_with (go_at_call 6; refine hc.mono ?_; rintro e w2 ⟨v, rfl, ho, hb⟩)
  go_ret3
  exact ⟨v, rfl, ho, hb⟩


/-! ### sedimentref30_Lines: function 7 -/
def sedimentref30_Lines.l0 : Nat → ByteArray → List ByteArray → Int → Int → Option (List ByteArray)
  | 0, _, _, _, _ => none
  | k + 1, x0, x3, x4, x5 => if x5 < (x0.size : Int) then (if 0 ≤ x5 then (if (bt x0 x5) = 10 then (if 0 ≤ x4 then (if x4 ≤ x5 then (if x5 ≤ (x0.size : Int) then (if x3.length < 8796093022208 then (sedimentref30_Lines.l0 k x0 (x3 ++ [x0.extract (x4 : Int).toNat (x5 : Int).toNat]) (wrap64 (x5 + 1)) (wrap64 (x5 + 1))) else (none)) else (none)) else (none)) else (none)) else (sedimentref30_Lines.l0 k x0 x3 x4 (wrap64 (x5 + 1)))) else (none)) else (if x4 < (x0.size : Int) then (if 0 ≤ x4 then (if x4 ≤ (x0.size : Int) then (if x3.length < 8796093022208 then (some (x3 ++ [x0.extract (x4 : Int).toNat x0.size])) else (none)) else (none)) else (none)) else (some x3))
def sedimentref30_Lines.f (k : Nat) (a0 : ByteArray) : Option (List ByteArray) := sedimentref30_Lines.l0 k a0 ([] : List ByteArray) 0 0
theorem sedimentref30_Lines.mono_l : ∀ k, (∀ y0 y1 y2 y3, LeO (sedimentref30_Lines.l0 k y0 y1 y2 y3) (sedimentref30_Lines.l0 (k + 1) y0 y1 y2 y3))
  | 0 => fun _ _ _ _ r h => by simp [sedimentref30_Lines.l0] at h
  | k + 1 => by
    have ih0 := sedimentref30_Lines.mono_l k
    · intro y0 y1 y2 y3
      unfold sedimentref30_Lines.l0
      repeat' first
      | (with_reducible exact ih0 _ _ _ _)
      | (with_reducible exact LeO.refl _)
      | (with_reducible exact LeO.none _)
      | (with_reducible refine LeO.ite ?_ ?_)
      | (with_reducible refine LeO.bind ?_ (fun _ => ?_))
      | exact ih0 _ _ _ _
      | exact LeO.none _
      | refine LeO.ite ?_ ?_
      | refine LeO.bind ?_ (fun _ => ?_)
theorem sedimentref30_Lines.mono : ∀ a0 k, LeO (sedimentref30_Lines.f k a0) (sedimentref30_Lines.f (k + 1) a0) := by
  intro a0 k
  have ih0 := sedimentref30_Lines.mono_l k
  unfold sedimentref30_Lines.f
  repeat' first
      | (with_reducible exact ih0 _ _ _ _)
      | (with_reducible exact LeO.refl _)
      | (with_reducible exact LeO.none _)
      | (with_reducible refine LeO.ite ?_ ?_)
      | (with_reducible refine LeO.bind ?_ (fun _ => ?_))
      | exact ih0 _ _ _ _
      | exact LeO.none _
      | refine LeO.ite ?_ ?_
      | refine LeO.bind ?_ (fun _ => ?_)
set_option maxHeartbeats 8000000 in
set_option maxRecDepth 100000 in
theorem sedimentref30_Lines.calls (k : Nat) (a0 : ByteArray) (r : List ByteArray) (w : World) (h : sedimentref30_Lines.f k a0 = some r) :
    Calls Tryd.prog 7 #[.string a0] w fun e w' => ∃ v0_ : Value, e = .returned (v0_) ∧ Kd.R Kd.string 9 w' w.heap.size (fun _ => True) v0_ r ∧ Below w.heap.size w w' := by
  have HB := Aside0.mk (Below.refl w.heap.size w)
  have H : (sedimentref30_Lines.l0 k a0 ([] : List ByteArray) 0 0) = some r := h
  clear h
  have H' := Aside0.mk H
  clear H
  go_enter Tryd.func7, Tryd.ntmps7
  go_wp2
  go_loopg [3, 4, 5] k (fun kq v3 v4 v5 w' => ∃ (x3_1 : List ByteArray) (x4_1 : Int) (x5_1 : Int), v4 = .int .i64 x4_1 ∧ v5 = .int .i64 x5_1 ∧ Aside0 (sedimentref30_Lines.l0 kq a0 x3_1 x4_1 x5_1 = some r) ∧ Aside0 (kq ≤ k) ∧ Aside0 (Kd.R Kd.string 9 w' w.heap.size (fun _ => True) v3 x3_1) ∧ Aside0 (Below w.heap.size w w'))
  case atStart => exact ⟨(([] : List ByteArray)), (0), (0), (by first | rfl | (simp; done) | (simp [*]; done)), (by first | rfl | (simp; done) | (simp [*]; done)), H', ⟨Nat.le_refl _⟩, ⟨by first | exact Kd.R_nil _ _ _ _ _ | exact Kd.N_nil _ _ _ _ _ | exact Kd.V_nil _ _ _ _ _ | exact Kd.Q_nil _ _ _ _ _ | exact Kd.S_nil _ _ _ _ _⟩, ⟨by repeat (first | (with_reducible first | exact HB.out | apply below_alloc | apply pw_below_drewN | apply below_drew1) | exact HB.out)⟩⟩
  case round =>
    clear H'
    obtain ⟨x3_1, x4_1, x5_1, rfl, rfl, HA, HK1, HO_3, HB⟩ := hrel
    cases gk with
    | zero => exact absurd HA.out (by simp [sedimentref30_Lines.l0])
    | succ k1 =>
      have H := HA.out
      clear HA
      simp only [sedimentref30_Lines.l0] at H
      by_cases c2 : x5_1 < (a0.size : Int)
      · rw [if_pos c2] at H
        have c2b0 : decide (x5_1 < (a0.size : Int)) = true := decide_eq_true c2
        clear c2
        by_cases c3 : 0 ≤ x5_1
        · rw [if_pos c3] at H
          have c3b0 : decide (0 ≤ x5_1) = true := decide_eq_true c3
          clear c3
          by_cases c5 : (bt a0 x5_1) = 10
          · rw [if_pos c5] at H
            have c5b0 : ((bt a0 x5_1) == 10) = true := beq_iff_eq.mpr c5
            have c5b1 : ((bt a0 x5_1) != 10) = false := bne_eq_false_iff_eq.mpr c5
            clear c5
            by_cases c6 : 0 ≤ x4_1
            · rw [if_pos c6] at H
              have c6b0 := eq_true c6
              have c6b1 : decide (0 ≤ x4_1) = true := decide_eq_true c6
              clear c6
              by_cases c7 : x4_1 ≤ x5_1
              · rw [if_pos c7] at H
                have c7b0 := eq_true c7
                have c7b1 : decide (x4_1 ≤ x5_1) = true := decide_eq_true c7
                clear c7
                by_cases c8 : x5_1 ≤ (a0.size : Int)
                · rw [if_pos c8] at H
                  have c8b0 := eq_true c8
                  have c8b1 : decide (x5_1 ≤ (a0.size : Int)) = true := decide_eq_true c8
                  clear c8
                  by_cases c9 : x3_1.length < 8796093022208
                  · rw [if_pos c9] at H
                    have LMc9 := Aside0.mk c9
                    clear c9
                    obtain ⟨y124, hy124⟩ : ∃ y_ : List ByteArray, y_ = (x3_1 ++ [a0.extract (x4_1 : Int).toNat (x5_1 : Int).toNat]) := ⟨_, rfl⟩
                    replace H : (sedimentref30_Lines.l0 k1 a0 y124 (wrap64 (x5_1 + 1)) (wrap64 (x5_1 + 1))) = some r := by first | (rw [hy124]; with_reducible exact H) | (have H2_ := (Option.bind_some _ _).symm.trans H; rw [hy124]; with_reducible exact H2_) | (have H2_ := (Option.bind_some _ _).symm.trans H; with_reducible exact H2_) | with_reducible exact H | (rw [hy124]; exact H) | exact H
                    have Ny124 := Aside0.mk hy124
                    clear hy124
                    have H' := Aside0.mk H
                    clear H
                    have p4 : 0 ≤ (x5_1 : Int) := of_decide_eq_true (by first | (with_reducible assumption) | assumption)
                    have q4 : x5_1 < (a0.size : Int) := of_decide_eq_true (by first | (with_reducible assumption) | assumption)
                    have hx4 := bt_at a0 x5_1
                    replace p4 := eq_true p4
                    replace q4 := eq_true q4
                    go_wp2_with (first | ((with_reducible refine gate_builtin (b := .append) (xs := #[.tmp 16, .tmp 21]) rfl ?_); at_builtin; refine Kd.R_append Kd.string (w0 := w) w.heap.size rfl (.tmp 16) (.tmp 21) 26 9 (.string ⟨#[]⟩) 16 rfl Tryd.underlying26 info9 rfl (by decide) (by omega) u3 x3_1 (a0.extract (x4_1 : Int).toNat (x5_1 : Int).toNat) [.string (a0.extract (x4_1 : Int).toNat (x5_1 : Int).toNat)] (fun _ => True) (fun _ => False) rfl rfl ?aP (fun _ hk => hk.elim) ?aF ?aO ?aB ?aS ?aL ?_; (case aP => exact rfl); (case aB => exact (by repeat (first | (with_reducible first | exact HB.out | apply below_alloc | apply pw_below_drewN | apply below_drew1) | exact HB.out))); (case aF => exact (fun _ _ => trivial)); (case aO => exact (by (with_reducible repeat (first | apply Kd.R_alloc | apply Kd.R_drewN | apply Kd.R_drew)); exact HO_3.out)); (case aS => exact (below_size (by repeat (first | (with_reducible first | exact HB.out | apply below_alloc | apply pw_below_drewN | apply below_drew1) | exact HB.out)))); (case aL => have := LMc9.out; omega); intro v125 w10 ho hb hg hat; rw [← Ny124.out] at ho; have n0_ := Aside0.mk (hb); have n1_ := Aside0.mk (ho); clear HB; clear HO_3; have HB := n0_; have HO126 := n1_; clear n0_ n1_; clear ho hb hg hat))
                    go_roundg k1
                    case measure => have := HK1.out; omega
                    case rel => exact ⟨(y124), (wrap64 (x5_1 + 1)), (wrap64 (x5_1 + 1)), (by first | rfl | (simp; done) | (simp [*]; done)), (by first | rfl | (simp; done) | (simp [*]; done)), H', ⟨by have := HK1.out; omega⟩, ⟨by (with_reducible repeat (first | apply Kd.R_alloc | apply Kd.R_drewN | apply Kd.R_drew)); exact HO126.out⟩, ⟨by repeat (first | (with_reducible first | exact HB.out | apply below_alloc | apply pw_below_drewN | apply below_drew1) | exact HB.out)⟩⟩
                  · rw [if_neg c9] at H
                    exact absurd H (by simp)
                · rw [if_neg c8] at H
                  exact absurd H (by simp)
              · rw [if_neg c7] at H
                exact absurd H (by simp)
            · rw [if_neg c6] at H
              exact absurd H (by simp)
          · rw [if_neg c5] at H
            have c5b0 : ((bt a0 x5_1) == 10) = false := beq_eq_false_iff_ne.mpr c5
            have c5b1 : ((bt a0 x5_1) != 10) = true := bne_iff_ne.mpr c5
            have H' := Aside0.mk H
            clear H
            have p4 : 0 ≤ (x5_1 : Int) := of_decide_eq_true (by first | (with_reducible assumption) | assumption)
            have q4 : x5_1 < (a0.size : Int) := of_decide_eq_true (by first | (with_reducible assumption) | assumption)
            have hx4 := bt_at a0 x5_1
            replace p4 := eq_true p4
            replace q4 := eq_true q4
            go_wp2
            go_roundg k1
            case measure => have := HK1.out; omega
            case rel => exact ⟨(x3_1), (x4_1), (wrap64 (x5_1 + 1)), (by first | rfl | (simp; done) | (simp [*]; done)), (by first | rfl | (simp; done) | (simp [*]; done)), H', ⟨by have := HK1.out; omega⟩, ⟨by (with_reducible repeat (first | apply Kd.R_alloc | apply Kd.R_drewN | apply Kd.R_drew)); exact HO_3.out⟩, ⟨by repeat (first | (with_reducible first | exact HB.out | apply below_alloc | apply pw_below_drewN | apply below_drew1) | exact HB.out)⟩⟩
        · rw [if_neg c3] at H
          exact absurd H (by simp)
      · rw [if_neg c2] at H
        have c2b0 : decide (x5_1 < (a0.size : Int)) = false := decide_eq_false c2
        clear c2
        by_cases c11 : x4_1 < (a0.size : Int)
        · rw [if_pos c11] at H
          have c11b0 : decide (x4_1 < (a0.size : Int)) = true := decide_eq_true c11
          clear c11
          by_cases c12 : 0 ≤ x4_1
          · rw [if_pos c12] at H
            have c12b0 := eq_true c12
            have c12b1 : decide (0 ≤ x4_1) = true := decide_eq_true c12
            clear c12
            by_cases c13 : x4_1 ≤ (a0.size : Int)
            · rw [if_pos c13] at H
              have c13b0 := eq_true c13
              have c13b1 : decide (x4_1 ≤ (a0.size : Int)) = true := decide_eq_true c13
              clear c13
              by_cases c14 : x3_1.length < 8796093022208
              · rw [if_pos c14] at H
                have LMc14 := Aside0.mk c14
                clear c14
                obtain ⟨y127, hy127⟩ : ∃ y_ : List ByteArray, y_ = (x3_1 ++ [a0.extract (x4_1 : Int).toNat a0.size]) := ⟨_, rfl⟩
                replace H : (some y127) = some r := by first | (rw [hy127]; with_reducible exact H) | (have H2_ := (Option.bind_some _ _).symm.trans H; rw [hy127]; with_reducible exact H2_) | (have H2_ := (Option.bind_some _ _).symm.trans H; with_reducible exact H2_) | with_reducible exact H | (rw [hy127]; exact H) | exact H
                have Ny127 := Aside0.mk hy127
                clear hy127
                obtain rfl := Option.some.inj H
                go_wp2_with (first | ((with_reducible refine gate_builtin (b := .append) (xs := #[.tmp 29, .tmp 33]) rfl ?_); at_builtin; refine Kd.R_append Kd.string (w0 := w) w.heap.size rfl (.tmp 29) (.tmp 33) 26 9 (.string ⟨#[]⟩) 16 rfl Tryd.underlying26 info9 rfl (by decide) (by omega) u3 x3_1 (a0.extract (x4_1 : Int).toNat a0.size) [.string (a0.extract (x4_1 : Int).toNat a0.size)] (fun _ => True) (fun _ => False) rfl rfl ?aP (fun _ hk => hk.elim) ?aF ?aO ?aB ?aS ?aL ?_; (case aP => exact rfl); (case aB => exact (by repeat (first | (with_reducible first | exact HB.out | apply below_alloc | apply pw_below_drewN | apply below_drew1) | exact HB.out))); (case aF => exact (fun _ _ => trivial)); (case aO => exact (by (with_reducible repeat (first | apply Kd.R_alloc | apply Kd.R_drewN | apply Kd.R_drew)); exact HO_3.out)); (case aS => exact (below_size (by repeat (first | (with_reducible first | exact HB.out | apply below_alloc | apply pw_below_drewN | apply below_drew1) | exact HB.out)))); (case aL => have := LMc14.out; omega); intro v128 w15 ho hb hg hat; rw [← Ny127.out] at ho; have n0_ := Aside0.mk (hb); have n1_ := Aside0.mk (ho); clear HB; clear HO_3; have HB := n0_; have HO129 := n1_; clear n0_ n1_; clear ho hb hg hat))
                go_ret
                exact ⟨_, by first | rfl | (simp [errW_none, errW_some] <;> rfl) | (simp [*, errW_none, errW_some] <;> rfl), by (with_reducible repeat (first | apply Kd.R_alloc | apply Kd.R_drewN | apply Kd.R_drew)); exact HO129.out, by repeat (first | (with_reducible first | exact HB.out | apply below_alloc | apply pw_below_drewN | apply below_drew1) | exact HB.out)⟩
              · rw [if_neg c14] at H
                exact absurd H (by simp)
            · rw [if_neg c13] at H
              exact absurd H (by simp)
          · rw [if_neg c12] at H
            exact absurd H (by simp)
        · rw [if_neg c11] at H
          have c11b0 : decide (x4_1 < (a0.size : Int)) = false := decide_eq_false c11
          clear c11
          obtain rfl := Option.some.inj H
          go_wp2
          go_ret
          exact ⟨_, by first | rfl | (simp [errW_none, errW_some] <;> rfl) | (simp [*, errW_none, errW_some] <;> rfl), by (with_reducible repeat (first | apply Kd.R_alloc | apply Kd.R_drewN | apply Kd.R_drew)); exact HO_3.out, by repeat (first | (with_reducible first | exact HB.out | apply below_alloc | apply pw_below_drewN | apply below_drew1) | exact HB.out)⟩

end Go.Proofs.YtmjneidcdeeafaaDoor.QP
