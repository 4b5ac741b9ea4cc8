-- LAID BY myprint.sh (a print with contracts of one's own beside it). Not trusted: Lean checks it.
import Derived.Test.YtmjneidcdeeafaaDoorQPx0
import Derived.Test.YtmjneidcdeeafaaDoorQPx3
import Derived.Test.YtmjneidcdeeafaaDoorQPx7
namespace Go.Proofs.YtmjneidcdeeafaaDoor.QP
open Go.RowKit Go.Proofs.YtmjneidcdeeafaaDoorW.PrintWords Go.Proofs.YtmjneidcdeeafaaDoorW.PrintLast Go.Proofs.YtmjneidcdeeafaaDoorW.PrintMore
attribute [local go_sem] max2_int min2_int max_two min_two max_three min_three max_four min_four   -- for this text's walks alone
set_option linter.unusedVariables false
set_option linter.unusedSimpArgs false

/-! ### sedimentlaw30_ShellParses: function 3 -/
mutual
def sedimentlaw30_ShellParses.j0 : Nat → List (S28) → List (S28) → Bool → Option (Bool)
  | 0, _, _, _ => none
  | k + 1, x3, x6, x40 => if x40 = true then (some false) else (sedimentlaw30_ShellParses.l0 k x3 x6 0)
def sedimentlaw30_ShellParses.l0 : Nat → List (S28) → List (S28) → Int → Option (Bool)
  | 0, _, _, _ => none
  | k + 1, x3, x6, x9 => if x9 < (x3.length : Int) then (if 0 ≤ x9 then (if x9 < (x6.length : Int) then (if ((rd_T28 x3 x9).f0) = ((rd_T28 x6 x9).f0) then (if ((rd_T28 x3 x9).f1).toList = ((rd_T28 x6 x9).f1).toList then (sedimentlaw30_ShellParses.j2 k x3 x6 x9 ((((rd_T28 x3 x9).f2).length : Int) != (((rd_T28 x6 x9).f2).length : Int))) else (sedimentlaw30_ShellParses.j2 k x3 x6 x9 true)) else (sedimentlaw30_ShellParses.j2 k x3 x6 x9 true)) else (none)) else (none)) else ((shell_Parse.f k (⟨#[108, 97, 115, 116, 10]⟩ : ByteArray)).bind fun bt166 => (if (bt166.1.length : Int) = 1 then (some (bt166.2.2 == 0)) else (some false)))
def sedimentlaw30_ShellParses.j2 : Nat → List (S28) → List (S28) → Int → Bool → Option (Bool)
  | 0, _, _, _, _ => none
  | k + 1, x3, x6, x9, x85 => if x85 = true then (some false) else (sedimentlaw30_ShellParses.l1 k x3 x6 x9 0)
def sedimentlaw30_ShellParses.l1 : Nat → List (S28) → List (S28) → Int → Int → Option (Bool)
  | 0, _, _, _, _ => none
  | k + 1, x3, x6, x9, x10 => if 0 ≤ x9 then (if x9 < (x3.length : Int) then (if x10 < (((rd_T28 x3 x9).f2).length : Int) then (if 0 ≤ x10 then (if x9 < (x6.length : Int) then (if x10 < (((rd_T28 x6 x9).f2).length : Int) then (if (rdOf ByteArray.empty ((rd_T28 x3 x9).f2) x10).toList = (rdOf ByteArray.empty ((rd_T28 x6 x9).f2) x10).toList then (sedimentlaw30_ShellParses.l1 k x3 x6 x9 (wrap64 (x10 + 1))) else (some false)) else (none)) else (none)) else (none)) else (sedimentlaw30_ShellParses.l0 k x3 x6 (wrap64 (x9 + 1)))) else (none)) else (none)
end
def sedimentlaw30_ShellParses.f (k : Nat) (a0 : ByteArray) : Option (Bool) := (shell_Parse.f k a0).bind fun bt156 => ((sedimentref30_Parse.f k a0).bind fun bt161 => (if bt156.2.1 = bt161.2.1 then (if bt156.2.2 = bt161.2.2 then (sedimentlaw30_ShellParses.j0 k bt156.1 bt161.1 ((bt156.1.length : Int) != (bt161.1.length : Int))) else (sedimentlaw30_ShellParses.j0 k bt156.1 bt161.1 true)) else (sedimentlaw30_ShellParses.j0 k bt156.1 bt161.1 true)))
theorem sedimentlaw30_ShellParses.mono_l : ∀ k, (∀ y0 y1 y2, LeO (sedimentlaw30_ShellParses.j0 k y0 y1 y2) (sedimentlaw30_ShellParses.j0 (k + 1) y0 y1 y2)) ∧ (∀ y0 y1 y2, LeO (sedimentlaw30_ShellParses.l0 k y0 y1 y2) (sedimentlaw30_ShellParses.l0 (k + 1) y0 y1 y2)) ∧ (∀ y0 y1 y2 y3, LeO (sedimentlaw30_ShellParses.j2 k y0 y1 y2 y3) (sedimentlaw30_ShellParses.j2 (k + 1) y0 y1 y2 y3)) ∧ (∀ y0 y1 y2 y3, LeO (sedimentlaw30_ShellParses.l1 k y0 y1 y2 y3) (sedimentlaw30_ShellParses.l1 (k + 1) y0 y1 y2 y3))
  | 0 => ⟨fun _ _ _ r h => by simp [sedimentlaw30_ShellParses.j0] at h, fun _ _ _ r h => by simp [sedimentlaw30_ShellParses.l0] at h, fun _ _ _ _ r h => by simp [sedimentlaw30_ShellParses.j2] at h, fun _ _ _ _ r h => by simp [sedimentlaw30_ShellParses.l1] at h⟩
  | k + 1 => by
    obtain ⟨ih0, ih1, ih2, ih3⟩ := sedimentlaw30_ShellParses.mono_l k
    refine ⟨?_, ?_, ?_, ?_⟩
    · intro y0 y1 y2
      unfold sedimentlaw30_ShellParses.j0
      repeat' first
      | (with_reducible exact ih0 _ _ _)
      | (with_reducible exact ih1 _ _ _)
      | (with_reducible exact ih2 _ _ _ _)
      | (with_reducible exact ih3 _ _ _ _)
      | (with_reducible exact sedimentref30_Parse.mono _ _)
      | (with_reducible exact shell_Parse.mono _ _)
      | (with_reducible exact LeO.refl _)
      | (with_reducible exact LeO.none _)
      | (with_reducible refine LeO.ite ?_ ?_)
      | (with_reducible refine LeO.bind ?_ (fun _ => ?_))
      | exact ih0 _ _ _
      | exact ih1 _ _ _
      | exact ih2 _ _ _ _
      | exact ih3 _ _ _ _
      | exact sedimentref30_Parse.mono _ _
      | exact shell_Parse.mono _ _
      | exact LeO.none _
      | refine LeO.ite ?_ ?_
      | refine LeO.bind ?_ (fun _ => ?_)
    · intro y0 y1 y2
      unfold sedimentlaw30_ShellParses.l0
      repeat' first
      | (with_reducible exact ih0 _ _ _)
      | (with_reducible exact ih1 _ _ _)
      | (with_reducible exact ih2 _ _ _ _)
      | (with_reducible exact ih3 _ _ _ _)
      | (with_reducible exact sedimentref30_Parse.mono _ _)
      | (with_reducible exact shell_Parse.mono _ _)
      | (with_reducible exact LeO.refl _)
      | (with_reducible exact LeO.none _)
      | (with_reducible refine LeO.ite ?_ ?_)
      | (with_reducible refine LeO.bind ?_ (fun _ => ?_))
      | exact ih0 _ _ _
      | exact ih1 _ _ _
      | exact ih2 _ _ _ _
      | exact ih3 _ _ _ _
      | exact sedimentref30_Parse.mono _ _
      | exact shell_Parse.mono _ _
      | exact LeO.none _
      | refine LeO.ite ?_ ?_
      | refine LeO.bind ?_ (fun _ => ?_)
    · intro y0 y1 y2 y3
      unfold sedimentlaw30_ShellParses.j2
      repeat' first
      | (with_reducible exact ih0 _ _ _)
      | (with_reducible exact ih1 _ _ _)
      | (with_reducible exact ih2 _ _ _ _)
      | (with_reducible exact ih3 _ _ _ _)
      | (with_reducible exact sedimentref30_Parse.mono _ _)
      | (with_reducible exact shell_Parse.mono _ _)
      | (with_reducible exact LeO.refl _)
      | (with_reducible exact LeO.none _)
      | (with_reducible refine LeO.ite ?_ ?_)
      | (with_reducible refine LeO.bind ?_ (fun _ => ?_))
      | exact ih0 _ _ _
      | exact ih1 _ _ _
      | exact ih2 _ _ _ _
      | exact ih3 _ _ _ _
      | exact sedimentref30_Parse.mono _ _
      | exact shell_Parse.mono _ _
      | exact LeO.none _
      | refine LeO.ite ?_ ?_
      | refine LeO.bind ?_ (fun _ => ?_)
    · intro y0 y1 y2 y3
      unfold sedimentlaw30_ShellParses.l1
      repeat' first
      | (with_reducible exact ih0 _ _ _)
      | (with_reducible exact ih1 _ _ _)
      | (with_reducible exact ih2 _ _ _ _)
      | (with_reducible exact ih3 _ _ _ _)
      | (with_reducible exact sedimentref30_Parse.mono _ _)
      | (with_reducible exact shell_Parse.mono _ _)
      | (with_reducible exact LeO.refl _)
      | (with_reducible exact LeO.none _)
      | (with_reducible refine LeO.ite ?_ ?_)
      | (with_reducible refine LeO.bind ?_ (fun _ => ?_))
      | exact ih0 _ _ _
      | exact ih1 _ _ _
      | exact ih2 _ _ _ _
      | exact ih3 _ _ _ _
      | exact sedimentref30_Parse.mono _ _
      | exact shell_Parse.mono _ _
      | exact LeO.none _
      | refine LeO.ite ?_ ?_
      | refine LeO.bind ?_ (fun _ => ?_)
theorem sedimentlaw30_ShellParses.mono : ∀ a0 k, LeO (sedimentlaw30_ShellParses.f k a0) (sedimentlaw30_ShellParses.f (k + 1) a0) := by
  intro a0 k
  obtain ⟨ih0, ih1, ih2, ih3⟩ := sedimentlaw30_ShellParses.mono_l k
  unfold sedimentlaw30_ShellParses.f
  repeat' first
      | (with_reducible exact ih0 _ _ _)
      | (with_reducible exact ih1 _ _ _)
      | (with_reducible exact ih2 _ _ _ _)
      | (with_reducible exact ih3 _ _ _ _)
      | (with_reducible exact sedimentref30_Parse.mono _ _)
      | (with_reducible exact shell_Parse.mono _ _)
      | (with_reducible exact LeO.refl _)
      | (with_reducible exact LeO.none _)
      | (with_reducible refine LeO.ite ?_ ?_)
      | (with_reducible refine LeO.bind ?_ (fun _ => ?_))
      | exact ih0 _ _ _
      | exact ih1 _ _ _
      | exact ih2 _ _ _ _
      | exact ih3 _ _ _ _
      | exact sedimentref30_Parse.mono _ _
      | exact shell_Parse.mono _ _
      | exact LeO.none _
      | refine LeO.ite ?_ ?_
      | refine LeO.bind ?_ (fun _ => ?_)
set_option maxHeartbeats 8000000 in
set_option maxRecDepth 100000 in
theorem sedimentlaw30_ShellParses.calls (k : Nat) (a0 : ByteArray) (r : Bool) (w : World) (h : sedimentlaw30_ShellParses.f k a0 = some r) :
    Calls Tryd.prog 3 #[.string a0] w fun e w' => e = .returned (.bool r) ∧ Below w.heap.size w w' := by
  have HB := Aside0.mk (Below.refl w.heap.size w)
  have H : ((shell_Parse.f k a0).bind fun bt156 => ((sedimentref30_Parse.f k a0).bind fun bt161 => (if bt156.2.1 = bt161.2.1 then (if bt156.2.2 = bt161.2.2 then (sedimentlaw30_ShellParses.j0 k bt156.1 bt161.1 ((bt156.1.length : Int) != (bt161.1.length : Int))) else (sedimentlaw30_ShellParses.j0 k bt156.1 bt161.1 true)) else (sedimentlaw30_ShellParses.j0 k bt156.1 bt161.1 true)))) = some r := h
  clear h
  replace H := Option.bind_eq_some_iff.mp H
  obtain ⟨⟨t156, t159, t160⟩, A20, H⟩ := H
  replace H : ((sedimentref30_Parse.f k a0).bind fun bt161 => (if t159 = bt161.2.1 then (if t160 = bt161.2.2 then (sedimentlaw30_ShellParses.j0 k t156 bt161.1 ((t156.length : Int) != (bt161.1.length : Int))) else (sedimentlaw30_ShellParses.j0 k t156 bt161.1 true)) else (sedimentlaw30_ShellParses.j0 k t156 bt161.1 true))) = some r := H
  have A2 := Aside0.mk A20
  clear A20
  replace H := Option.bind_eq_some_iff.mp H
  obtain ⟨⟨t161, t164, t165⟩, A30, H⟩ := H
  replace H : (if t159 = t164 then (if t160 = t165 then (sedimentlaw30_ShellParses.j0 k t156 t161 ((t156.length : Int) != (t161.length : Int))) else (sedimentlaw30_ShellParses.j0 k t156 t161 true)) else (sedimentlaw30_ShellParses.j0 k t156 t161 true)) = some r := H
  have A3 := Aside0.mk A30
  clear A30
  have HC4 := Aside0.mk H
  clear H
  go_enter Tryd.func3, Tryd.ntmps3
  go_upto_region 3 with (first | (go_at_call 4; (with_reducible refine (shell_Parse.calls k a0 t156 t159 t160 _ A2.out).mono ?_); rintro e w5 ⟨v157, rfl, ho0, hb⟩; have n0_ := Aside0.mk (Kd.N_lower (Kd.N_mono (ok' := fun k_ => True) ho0 (fun k_ hk_ => trivial)) (below_size (by repeat (first | (with_reducible first | exact HB.out | apply below_alloc | apply pw_below_drewN | apply below_drew1) | exact HB.out)))); have n1_ := Aside0.mk (below_step (by repeat (first | (with_reducible first | exact HB.out | apply below_alloc | apply pw_below_drewN | apply below_drew1) | exact HB.out)) hb); clear HB; have HO158 := n0_; have HB := n1_; clear n0_ n1_; (try clear hb); (try clear hb2); (try clear hk); (try clear hi); (try clear ho0)) | (go_at_call 5; (with_reducible refine (sedimentref30_Parse.calls k a0 t161 t164 t165 _ A3.out).mono ?_); rintro e w6 ⟨v162, rfl, ho0, hb⟩; have n0_ := Aside0.mk (Kd.N_elder' (by (with_reducible repeat (first | apply Kd.N_alloc | apply Kd.N_drewN | apply Kd.N_drew)); exact HO158.out) (Kd.N_base ho0) hb); have n1_ := Aside0.mk (Kd.N_lower (Kd.N_mono (ok' := fun k_ => some k_ ≠ (v157 : Value).ownBlock) ho0 (fun k_ hk_ => (Kd.fresh' (Kd.N_lt (by (with_reducible repeat (first | apply Kd.N_alloc | apply Kd.N_drewN | apply Kd.N_drew)); exact HO158.out)) k_ hk_))) (below_size (by repeat (first | (with_reducible first | exact HB.out | apply below_alloc | apply pw_below_drewN | apply below_drew1) | exact HB.out)))); have n2_ := Aside0.mk (below_step (by repeat (first | (with_reducible first | exact HB.out | apply below_alloc | apply pw_below_drewN | apply below_drew1) | exact HB.out)) hb); clear HO158; clear HB; have HO158 := n0_; have HO163 := n1_; have HB := n2_; clear n0_ n1_ n2_; (try clear hb); (try clear hb2); (try clear hk); (try clear hi); (try clear ho0)))
  repeat (go_quiet (first | (go_at_call 4; (with_reducible refine (shell_Parse.calls k a0 t156 t159 t160 _ A2.out).mono ?_); rintro e w5 ⟨v157, rfl, ho0, hb⟩; have n0_ := Aside0.mk (Kd.N_lower (Kd.N_mono (ok' := fun k_ => True) ho0 (fun k_ hk_ => trivial)) (below_size (by repeat (first | (with_reducible first | exact HB.out | apply below_alloc | apply pw_below_drewN | apply below_drew1) | exact HB.out)))); have n1_ := Aside0.mk (below_step (by repeat (first | (with_reducible first | exact HB.out | apply below_alloc | apply pw_below_drewN | apply below_drew1) | exact HB.out)) hb); clear HB; have HO158 := n0_; have HB := n1_; clear n0_ n1_; (try clear hb); (try clear hb2); (try clear hk); (try clear hi); (try clear ho0)) | (go_at_call 5; (with_reducible refine (sedimentref30_Parse.calls k a0 t161 t164 t165 _ A3.out).mono ?_); rintro e w6 ⟨v162, rfl, ho0, hb⟩; have n0_ := Aside0.mk (Kd.N_elder' (by (with_reducible repeat (first | apply Kd.N_alloc | apply Kd.N_drewN | apply Kd.N_drew)); exact HO158.out) (Kd.N_base ho0) hb); have n1_ := Aside0.mk (Kd.N_lower (Kd.N_mono (ok' := fun k_ => some k_ ≠ (v157 : Value).ownBlock) ho0 (fun k_ hk_ => (Kd.fresh' (Kd.N_lt (by (with_reducible repeat (first | apply Kd.N_alloc | apply Kd.N_drewN | apply Kd.N_drew)); exact HO158.out)) k_ hk_))) (below_size (by repeat (first | (with_reducible first | exact HB.out | apply below_alloc | apply pw_below_drewN | apply below_drew1) | exact HB.out)))); have n2_ := Aside0.mk (below_step (by repeat (first | (with_reducible first | exact HB.out | apply below_alloc | apply pw_below_drewN | apply below_drew1) | exact HB.out)) hb); clear HO158; clear HB; have HO158 := n0_; have HO163 := n1_; have HB := n2_; clear n0_ n1_ n2_; (try clear hb); (try clear hb2); (try clear hk); (try clear hi); (try clear ho0))); go_upto_region 3 with (first | (go_at_call 4; (with_reducible refine (shell_Parse.calls k a0 t156 t159 t160 _ A2.out).mono ?_); rintro e w5 ⟨v157, rfl, ho0, hb⟩; have n0_ := Aside0.mk (Kd.N_lower (Kd.N_mono (ok' := fun k_ => True) ho0 (fun k_ hk_ => trivial)) (below_size (by repeat (first | (with_reducible first | exact HB.out | apply below_alloc | apply pw_below_drewN | apply below_drew1) | exact HB.out)))); have n1_ := Aside0.mk (below_step (by repeat (first | (with_reducible first | exact HB.out | apply below_alloc | apply pw_below_drewN | apply below_drew1) | exact HB.out)) hb); clear HB; have HO158 := n0_; have HB := n1_; clear n0_ n1_; (try clear hb); (try clear hb2); (try clear hk); (try clear hi); (try clear ho0)) | (go_at_call 5; (with_reducible refine (sedimentref30_Parse.calls k a0 t161 t164 t165 _ A3.out).mono ?_); rintro e w6 ⟨v162, rfl, ho0, hb⟩; have n0_ := Aside0.mk (Kd.N_elder' (by (with_reducible repeat (first | apply Kd.N_alloc | apply Kd.N_drewN | apply Kd.N_drew)); exact HO158.out) (Kd.N_base ho0) hb); have n1_ := Aside0.mk (Kd.N_lower (Kd.N_mono (ok' := fun k_ => some k_ ≠ (v157 : Value).ownBlock) ho0 (fun k_ hk_ => (Kd.fresh' (Kd.N_lt (by (with_reducible repeat (first | apply Kd.N_alloc | apply Kd.N_drewN | apply Kd.N_drew)); exact HO158.out)) k_ hk_))) (below_size (by repeat (first | (with_reducible first | exact HB.out | apply below_alloc | apply pw_below_drewN | apply below_drew1) | exact HB.out)))); have n2_ := Aside0.mk (below_step (by repeat (first | (with_reducible first | exact HB.out | apply below_alloc | apply pw_below_drewN | apply below_drew1) | exact HB.out)) hb); clear HO158; clear HB; have HO158 := n0_; have HO163 := n1_; have HB := n2_; clear n0_ n1_ n2_; (try clear hb); (try clear hb2); (try clear hk); (try clear hi); (try clear ho0))))
  (try simp only [Act.put, List.setIfInBounds_toArray, List.set_cons_zero, List.set_cons_succ])
  go_cut [40] (fun v40 wc => ∃ (kq : Nat) (x40_3 : Bool), v40 = .bool x40_3 ∧ Aside0 (sedimentlaw30_ShellParses.j0 kq t156 t161 x40_3 = some r) ∧ Aside0 (kq ≤ k) ∧ Aside0 (Kd.N k28 28 wc w.heap.size (fun k_ => some k_ ≠ (v162 : Value).ownBlock) v157 t156) ∧ Aside0 (Kd.N k28 28 wc w.heap.size (fun k_ => some k_ ≠ (v157 : Value).ownBlock) v162 t161) ∧ Aside0 (Below w.heap.size w wc))
  case first =>
    have H := HC4.out
    clear HC4
    by_cases c7 : t159 = t164
    · rw [if_pos c7] at H
      have c7b0 : (t159 == t164) = true := beq_iff_eq.mpr c7
      have c7b1 : (t159 != t164) = false := bne_eq_false_iff_eq.mpr c7
      clear c7
      (first | rw [c7b0] | (simp only [i64_w, i32_w]; rw [c7b0]) | skip)
      by_cases c8 : t160 = t165
      · rw [if_pos c8] at H
        have c8b0 : (t160 == t165) = true := beq_iff_eq.mpr c8
        have c8b1 : (t160 != t165) = false := bne_eq_false_iff_eq.mpr c8
        clear c8
        have H' := Aside0.mk H
        clear H
        obtain ⟨Ao9, co9, eo9⟩ := Kd.N_slice HO158.out
        subst eo9
        obtain ⟨Ao10, co10, eo10⟩ := Kd.N_slice HO163.out
        subst eo10
        go_wp2
        repeat (go_quiet (fail); try go_wp2)
        go_meet
        case rel => exact ⟨_, (((t156.length : Int) != (t161.length : Int))), (by first | rfl | (simp; done) | (simp [*]; done)), H', ⟨by first | omega | exact Nat.le_refl _⟩, ⟨by (with_reducible repeat (first | apply Kd.N_alloc | apply Kd.N_drewN | apply Kd.N_drew)); exact Kd.N_mono HO158.out (fun _ hk => hk.2)⟩, ⟨by (with_reducible repeat (first | apply Kd.N_alloc | apply Kd.N_drewN | apply Kd.N_drew)); exact HO163.out⟩, ⟨by repeat (first | (with_reducible first | exact HB.out | apply below_alloc | apply pw_below_drewN | apply below_drew1) | exact HB.out)⟩⟩
      · rw [if_neg c8] at H
        have c8b0 : (t160 == t165) = false := beq_eq_false_iff_ne.mpr c8
        have c8b1 : (t160 != t165) = true := bne_iff_ne.mpr c8
        have H' := Aside0.mk H
        clear H
        go_wp2
        repeat (go_quiet (fail); try go_wp2)
        go_meet
        case rel => exact ⟨_, (true), (by first | rfl | (simp; done) | (simp [*]; done)), H', ⟨by first | omega | exact Nat.le_refl _⟩, ⟨by (with_reducible repeat (first | apply Kd.N_alloc | apply Kd.N_drewN | apply Kd.N_drew)); exact Kd.N_mono HO158.out (fun _ hk => hk.2)⟩, ⟨by (with_reducible repeat (first | apply Kd.N_alloc | apply Kd.N_drewN | apply Kd.N_drew)); exact HO163.out⟩, ⟨by repeat (first | (with_reducible first | exact HB.out | apply below_alloc | apply pw_below_drewN | apply below_drew1) | exact HB.out)⟩⟩
    · rw [if_neg c7] at H
      have c7b0 : (t159 == t164) = false := beq_eq_false_iff_ne.mpr c7
      have c7b1 : (t159 != t164) = true := bne_iff_ne.mpr c7
      (first | rw [c7b0] | (simp only [i64_w, i32_w]; rw [c7b0]) | skip)
      have H' := Aside0.mk H
      clear H
      go_wp2
      repeat (go_quiet (fail); try go_wp2)
      go_meet
      case rel => exact ⟨_, (true), (by first | rfl | (simp; done) | (simp [*]; done)), H', ⟨by first | omega | exact Nat.le_refl _⟩, ⟨by (with_reducible repeat (first | apply Kd.N_alloc | apply Kd.N_drewN | apply Kd.N_drew)); exact Kd.N_mono HO158.out (fun _ hk => hk.2)⟩, ⟨by (with_reducible repeat (first | apply Kd.N_alloc | apply Kd.N_drewN | apply Kd.N_drew)); exact HO163.out⟩, ⟨by repeat (first | (with_reducible first | exact HB.out | apply below_alloc | apply pw_below_drewN | apply below_drew1) | exact HB.out)⟩⟩
  case rest =>
    clear HC4
    try clear p2
    try clear c3
    try clear c7
    try clear c7b0
    try clear c7b1
    try clear c8
    try clear c8b0
    try clear c8b1
    obtain ⟨kq, x40_3, rfl, HA, HJ3, HO_3, HO_6, HB⟩ := hcut
    cases kq with
    | zero => exact absurd HA.out (by simp [sedimentlaw30_ShellParses.j0])
    | succ kj3 =>
      have H := HA.out
      clear HA
      simp only [sedimentlaw30_ShellParses.j0] at H
      by_cases c11 : x40_3 = true
      · subst c11
        have H1 : (some false) = some r := by rw [if_pos rfl] at H; exact H
        clear H
        have H := H1
        clear H1
        obtain rfl := Option.some.inj H
        go_wp2
        repeat (go_quiet (fail); try go_wp2)
        go_ret
        exact ⟨by first | rfl | (simp [errW_none, errW_some] <;> rfl) | (simp [*, errW_none, errW_some] <;> rfl), by repeat (first | (with_reducible first | exact HB.out | apply below_alloc | apply pw_below_drewN | apply below_drew1) | exact HB.out)⟩
      · replace c11 := Bool.eq_false_iff.mpr c11
        subst c11
        have H1 : (sedimentlaw30_ShellParses.l0 kj3 t156 t161 0) = some r := by rw [if_neg (show ¬ (false = true) by decide)] at H; exact H
        clear H
        have H := H1
        clear H1
        have H' := Aside0.mk H
        clear H
        go_wp2
        repeat (go_quiet (fail); try go_wp2)
        go_loopg [9] kj3 (fun kq v9 w' => ∃ (x9_2 : Int), v9 = .int .i64 x9_2 ∧ Aside0 (sedimentlaw30_ShellParses.l0 kq t156 t161 x9_2 = some r) ∧ Aside0 (kq ≤ kj3) ∧ Aside0 (Kd.N k28 28 w' w.heap.size (fun k_ => some k_ ≠ (v162 : Value).ownBlock) v157 t156) ∧ Aside0 (Kd.N k28 28 w' w.heap.size (fun k_ => some k_ ≠ (v157 : Value).ownBlock) v162 t161) ∧ Aside0 (Below w.heap.size w w'))
        case atStart => exact ⟨(0), (by first | rfl | (simp; done) | (simp [*]; done)), H', ⟨Nat.le_refl _⟩, ⟨by (with_reducible repeat (first | apply Kd.N_alloc | apply Kd.N_drewN | apply Kd.N_drew)); exact HO_3.out⟩, ⟨by (with_reducible repeat (first | apply Kd.N_alloc | apply Kd.N_drewN | apply Kd.N_drew)); exact HO_6.out⟩, ⟨by repeat (first | (with_reducible first | exact HB.out | apply below_alloc | apply pw_below_drewN | apply below_drew1) | exact HB.out)⟩⟩
        case round =>
          clear H'
          try clear c1
          try clear p2
          try clear c3
          try clear c7
          try clear c7b0
          try clear c7b1
          try clear c8
          try clear c8b0
          try clear c8b1
          try clear c11
          try clear p2
          obtain ⟨x9_2, rfl, HA, HK2, HO_3, HO_6, HB⟩ := hrel
          cases gk with
          | zero => exact absurd HA.out (by simp [sedimentlaw30_ShellParses.l0])
          | succ k2 =>
            have H := HA.out
            clear HA
            simp only [sedimentlaw30_ShellParses.l0] at H
            by_cases c12 : x9_2 < (t156.length : Int)
            · rw [if_pos c12] at H
              have c12b0 : decide (x9_2 < (t156.length : Int)) = true := decide_eq_true c12
              clear c12
              have HC13 := Aside0.mk H
              clear H
              obtain ⟨Ao14, co14, eo14⟩ := Kd.N_slice HO_3.out
              subst eo14
              go_upto_region 8 with (fail)
              repeat (go_quiet (fail); go_upto_region 8 with (fail))
              go_cut [85] (fun v85 wc => ∃ (kq : Nat) (x85_12 : Bool), v85 = .bool x85_12 ∧ Aside0 (sedimentlaw30_ShellParses.j2 kq t156 t161 x9_2 x85_12 = some r) ∧ Aside0 (kq ≤ k2) ∧ Aside0 (Kd.N k28 28 wc w.heap.size (fun k_ => some k_ ≠ (v162 : Value).ownBlock) (.slice Ao14 t156.length co14) t156) ∧ Aside0 (Kd.N k28 28 wc w.heap.size (fun k_ => some k_ ≠ ((.slice Ao14 t156.length co14) : Value).ownBlock) v162 t161) ∧ Aside0 (Below w.heap.size w wc))
              case first =>
                have H := HC13.out
                clear HC13
                by_cases c15 : 0 ≤ x9_2
                · rw [if_pos c15] at H
                  have c15b0 : decide (0 ≤ x9_2) = true := decide_eq_true c15
                  clear c15
                  (first | rw [c15b0] | (simp only [i64_w, i32_w]; rw [c15b0]) | skip)
                  by_cases c16 : x9_2 < (t161.length : Int)
                  · rw [if_pos c16] at H
                    have c16b0 : decide (x9_2 < (t161.length : Int)) = true := decide_eq_true c16
                    clear c16
                    by_cases c17 : ((rd_T28 t156 x9_2).f0) = ((rd_T28 t161 x9_2).f0)
                    · rw [if_pos c17] at H
                      have c17b0 : (((rd_T28 t156 x9_2).f0) == ((rd_T28 t161 x9_2).f0)) = true := beq_iff_eq.mpr c17
                      have c17b1 : (((rd_T28 t156 x9_2).f0) != ((rd_T28 t161 x9_2).f0)) = false := bne_eq_false_iff_eq.mpr c17
                      clear c17
                      by_cases c18 : ((rd_T28 t156 x9_2).f1).toList = ((rd_T28 t161 x9_2).f1).toList
                      · rw [if_pos c18] at H
                        have c18b0 : (((rd_T28 t156 x9_2).f1).toList == ((rd_T28 t161 x9_2).f1).toList) = true := beq_iff_eq.mpr c18
                        have c18b1 : (((rd_T28 t156 x9_2).f1).toList != ((rd_T28 t161 x9_2).f1).toList) = false := bne_eq_false_iff_eq.mpr c18
                        clear c18
                        have H' := Aside0.mk H
                        clear H
                        have p171 : 0 ≤ (x9_2 : Int) := of_decide_eq_true (by first | (with_reducible assumption) | assumption)
                        have q171 : x9_2 < (t156.length : Int) := of_decide_eq_true (by first | (with_reducible assumption) | assumption)
                        obtain ⟨ad171, A171_2, c171_2, e171, hx171_0, hx171_1, hx171_2, hl171_2, hi171_2⟩ := at_T28 (Kd.N_reads' HO_3.out).2.2 x9_2 p171 q171
                        cases e171
                        obtain ⟨ce171, hce171, hMe171, hcc171⟩ := Kd.N_get HO_3.out z28 x9_2 p171 (by first | exact q171 | exact of_decide_eq_true (by first | (with_reducible assumption) | assumption) | (have e_ := (Kd.N_reads' HO_3.out).1; omega))
                        obtain ⟨ua171_2, uc171_2, rfl, ul171_2, ge171_2⟩ := k28_openF hMe171
                        have hv171_2 := hcc171 2 _ rfl
                        rw [add_field _ _ 2 (by omega)] at hv171_2
                        replace hv171_2 := Option.some.inj (hv171_2.symm.trans hx171_2)
                        injection hv171_2 with hva_ hvn_ hvc_
                        rw [hva_] at ge171_2
                        rw [hvc_] at ul171_2
                        have HL171_2 := Aside0.mk (show Kd.V Kd.string 9 _ w.heap.size _ _ ((rd_T28 t156 x9_2).f2) from Kd.V_mk ul171_2 ge171_2)
                        clear hva_ hvn_ hvc_ ge171_2 ul171_2
                        clear hcc171 hce171
                        have HR171_2 := Aside0.mk hi171_2
                        have HC171_2 := Aside0.mk hl171_2
                        clear hi171_2 hl171_2
                        replace p171 := eq_true p171
                        replace q171 := eq_true q171
                        obtain ⟨Ao19, co19, eo19⟩ := Kd.N_slice HO_6.out
                        subst eo19
                        have p172 : 0 ≤ (x9_2 : Int) := of_decide_eq_true (by first | (with_reducible assumption) | assumption)
                        have q172 : x9_2 < (t161.length : Int) := of_decide_eq_true (by first | (with_reducible assumption) | assumption)
                        obtain ⟨ad172, A172_2, c172_2, e172, hx172_0, hx172_1, hx172_2, hl172_2, hi172_2⟩ := at_T28 (Kd.N_reads' HO_6.out).2.2 x9_2 p172 q172
                        cases e172
                        obtain ⟨ce172, hce172, hMe172, hcc172⟩ := Kd.N_get HO_6.out z28 x9_2 p172 (by first | exact q172 | exact of_decide_eq_true (by first | (with_reducible assumption) | assumption) | (have e_ := (Kd.N_reads' HO_6.out).1; omega))
                        obtain ⟨ua172_2, uc172_2, rfl, ul172_2, ge172_2⟩ := k28_openF hMe172
                        have hv172_2 := hcc172 2 _ rfl
                        rw [add_field _ _ 2 (by omega)] at hv172_2
                        replace hv172_2 := Option.some.inj (hv172_2.symm.trans hx172_2)
                        injection hv172_2 with hva_ hvn_ hvc_
                        rw [hva_] at ge172_2
                        rw [hvc_] at ul172_2
                        have HL172_2 := Aside0.mk (show Kd.V Kd.string 9 _ w.heap.size _ _ ((rd_T28 t161 x9_2).f2) from Kd.V_mk ul172_2 ge172_2)
                        clear hva_ hvn_ hvc_ ge172_2 ul172_2
                        clear hcc172 hce172
                        have HR172_2 := Aside0.mk hi172_2
                        have HC172_2 := Aside0.mk hl172_2
                        clear hi172_2 hl172_2
                        replace p172 := eq_true p172
                        replace q172 := eq_true q172
                        have p173 : 0 ≤ (x9_2 : Int) := of_decide_eq_true (by first | (with_reducible assumption) | assumption)
                        have q173 : x9_2 < (t156.length : Int) := of_decide_eq_true (by first | (with_reducible assumption) | assumption)
                        obtain ⟨ad173, A173_2, c173_2, e173, hx173_0, hx173_1, hx173_2, hl173_2, hi173_2⟩ := at_T28 (Kd.N_reads' HO_3.out).2.2 x9_2 p173 q173
                        obtain rfl : ad171 = ad173 := (by injection e173)
                        obtain ⟨ce173, hce173, hMe173, hcc173⟩ := Kd.N_get HO_3.out z28 x9_2 p173 (by first | exact q173 | exact of_decide_eq_true (by first | (with_reducible assumption) | assumption) | (have e_ := (Kd.N_reads' HO_3.out).1; omega))
                        obtain ⟨ua173_2, uc173_2, rfl, ul173_2, ge173_2⟩ := k28_openF hMe173
                        have hv173_2 := hcc173 2 _ rfl
                        rw [add_field _ _ 2 (by omega)] at hv173_2
                        replace hv173_2 := Option.some.inj (hv173_2.symm.trans hx173_2)
                        injection hv173_2 with hva_ hvn_ hvc_
                        rw [hva_] at ge173_2
                        rw [hvc_] at ul173_2
                        have HL173_2 := Aside0.mk (show Kd.V Kd.string 9 _ w.heap.size _ _ ((rd_T28 t156 x9_2).f2) from Kd.V_mk ul173_2 ge173_2)
                        clear hva_ hvn_ hvc_ ge173_2 ul173_2
                        clear hcc173 hce173
                        have HR173_2 := Aside0.mk hi173_2
                        have HC173_2 := Aside0.mk hl173_2
                        clear hi173_2 hl173_2
                        replace p173 := eq_true p173
                        replace q173 := eq_true q173
                        have ea_ := Option.some.inj (hx171_2.symm.trans hx173_2)
                        injection ea_ with ea_ en_ ec_
                        subst ea_
                        subst ec_
                        clear en_
                        have p174 : 0 ≤ (x9_2 : Int) := of_decide_eq_true (by first | (with_reducible assumption) | assumption)
                        have q174 : x9_2 < (t161.length : Int) := of_decide_eq_true (by first | (with_reducible assumption) | assumption)
                        obtain ⟨ad174, A174_2, c174_2, e174, hx174_0, hx174_1, hx174_2, hl174_2, hi174_2⟩ := at_T28 (Kd.N_reads' HO_6.out).2.2 x9_2 p174 q174
                        obtain rfl : ad172 = ad174 := (by injection e174)
                        obtain ⟨ce174, hce174, hMe174, hcc174⟩ := Kd.N_get HO_6.out z28 x9_2 p174 (by first | exact q174 | exact of_decide_eq_true (by first | (with_reducible assumption) | assumption) | (have e_ := (Kd.N_reads' HO_6.out).1; omega))
                        obtain ⟨ua174_2, uc174_2, rfl, ul174_2, ge174_2⟩ := k28_openF hMe174
                        have hv174_2 := hcc174 2 _ rfl
                        rw [add_field _ _ 2 (by omega)] at hv174_2
                        replace hv174_2 := Option.some.inj (hv174_2.symm.trans hx174_2)
                        injection hv174_2 with hva_ hvn_ hvc_
                        rw [hva_] at ge174_2
                        rw [hvc_] at ul174_2
                        have HL174_2 := Aside0.mk (show Kd.V Kd.string 9 _ w.heap.size _ _ ((rd_T28 t161 x9_2).f2) from Kd.V_mk ul174_2 ge174_2)
                        clear hva_ hvn_ hvc_ ge174_2 ul174_2
                        clear hcc174 hce174
                        have HR174_2 := Aside0.mk hi174_2
                        have HC174_2 := Aside0.mk hl174_2
                        clear hi174_2 hl174_2
                        replace p174 := eq_true p174
                        replace q174 := eq_true q174
                        have ea_ := Option.some.inj (hx172_2.symm.trans hx174_2)
                        injection ea_ with ea_ en_ ec_
                        subst ea_
                        subst ec_
                        clear en_
                        have p175 : 0 ≤ (x9_2 : Int) := of_decide_eq_true (by first | (with_reducible assumption) | assumption)
                        have q175 : x9_2 < (t156.length : Int) := of_decide_eq_true (by first | (with_reducible assumption) | assumption)
                        obtain ⟨ad175, A175_2, c175_2, e175, hx175_0, hx175_1, hx175_2, hl175_2, hi175_2⟩ := at_T28 (Kd.N_reads' HO_3.out).2.2 x9_2 p175 q175
                        obtain rfl : ad171 = ad175 := (by injection e175)
                        obtain ⟨ce175, hce175, hMe175, hcc175⟩ := Kd.N_get HO_3.out z28 x9_2 p175 (by first | exact q175 | exact of_decide_eq_true (by first | (with_reducible assumption) | assumption) | (have e_ := (Kd.N_reads' HO_3.out).1; omega))
                        obtain ⟨ua175_2, uc175_2, rfl, ul175_2, ge175_2⟩ := k28_openF hMe175
                        have hv175_2 := hcc175 2 _ rfl
                        rw [add_field _ _ 2 (by omega)] at hv175_2
                        replace hv175_2 := Option.some.inj (hv175_2.symm.trans hx175_2)
                        injection hv175_2 with hva_ hvn_ hvc_
                        rw [hva_] at ge175_2
                        rw [hvc_] at ul175_2
                        have HL175_2 := Aside0.mk (show Kd.V Kd.string 9 _ w.heap.size _ _ ((rd_T28 t156 x9_2).f2) from Kd.V_mk ul175_2 ge175_2)
                        clear hva_ hvn_ hvc_ ge175_2 ul175_2
                        clear hcc175 hce175
                        have HR175_2 := Aside0.mk hi175_2
                        have HC175_2 := Aside0.mk hl175_2
                        clear hi175_2 hl175_2
                        replace p175 := eq_true p175
                        replace q175 := eq_true q175
                        have ea_ := Option.some.inj (hx171_2.symm.trans hx175_2)
                        injection ea_ with ea_ en_ ec_
                        subst ea_
                        subst ec_
                        clear en_
                        have p176 : 0 ≤ (x9_2 : Int) := of_decide_eq_true (by first | (with_reducible assumption) | assumption)
                        have q176 : x9_2 < (t161.length : Int) := of_decide_eq_true (by first | (with_reducible assumption) | assumption)
                        obtain ⟨ad176, A176_2, c176_2, e176, hx176_0, hx176_1, hx176_2, hl176_2, hi176_2⟩ := at_T28 (Kd.N_reads' HO_6.out).2.2 x9_2 p176 q176
                        obtain rfl : ad172 = ad176 := (by injection e176)
                        obtain ⟨ce176, hce176, hMe176, hcc176⟩ := Kd.N_get HO_6.out z28 x9_2 p176 (by first | exact q176 | exact of_decide_eq_true (by first | (with_reducible assumption) | assumption) | (have e_ := (Kd.N_reads' HO_6.out).1; omega))
                        obtain ⟨ua176_2, uc176_2, rfl, ul176_2, ge176_2⟩ := k28_openF hMe176
                        have hv176_2 := hcc176 2 _ rfl
                        rw [add_field _ _ 2 (by omega)] at hv176_2
                        replace hv176_2 := Option.some.inj (hv176_2.symm.trans hx176_2)
                        injection hv176_2 with hva_ hvn_ hvc_
                        rw [hva_] at ge176_2
                        rw [hvc_] at ul176_2
                        have HL176_2 := Aside0.mk (show Kd.V Kd.string 9 _ w.heap.size _ _ ((rd_T28 t161 x9_2).f2) from Kd.V_mk ul176_2 ge176_2)
                        clear hva_ hvn_ hvc_ ge176_2 ul176_2
                        clear hcc176 hce176
                        have HR176_2 := Aside0.mk hi176_2
                        have HC176_2 := Aside0.mk hl176_2
                        clear hi176_2 hl176_2
                        replace p176 := eq_true p176
                        replace q176 := eq_true q176
                        have ea_ := Option.some.inj (hx172_2.symm.trans hx176_2)
                        injection ea_ with ea_ en_ ec_
                        subst ea_
                        subst ec_
                        clear en_
                        go_wp2
                        repeat (go_quiet (fail); try go_wp2)
                        go_meet
                        case rel => exact ⟨_, (((((rd_T28 t156 x9_2).f2).length : Int) != (((rd_T28 t161 x9_2).f2).length : Int))), (by first | rfl | (simp; done) | (simp [*]; done)), H', ⟨by have := HJ3.out; have := HK2.out; first | omega | exact Nat.le_refl _⟩, ⟨by (with_reducible repeat (first | apply Kd.N_alloc | apply Kd.N_drewN | apply Kd.N_drew)); exact HO_3.out⟩, ⟨by (with_reducible repeat (first | apply Kd.N_alloc | apply Kd.N_drewN | apply Kd.N_drew)); exact HO_6.out⟩, ⟨by repeat (first | (with_reducible first | exact HB.out | apply below_alloc | apply pw_below_drewN | apply below_drew1) | exact HB.out)⟩⟩
                      · rw [if_neg c18] at H
                        have c18b0 : (((rd_T28 t156 x9_2).f1).toList == ((rd_T28 t161 x9_2).f1).toList) = false := beq_eq_false_iff_ne.mpr c18
                        have c18b1 : (((rd_T28 t156 x9_2).f1).toList != ((rd_T28 t161 x9_2).f1).toList) = true := bne_iff_ne.mpr c18
                        have H' := Aside0.mk H
                        clear H
                        have p171 : 0 ≤ (x9_2 : Int) := of_decide_eq_true (by first | (with_reducible assumption) | assumption)
                        have q171 : x9_2 < (t156.length : Int) := of_decide_eq_true (by first | (with_reducible assumption) | assumption)
                        obtain ⟨ad171, A171_2, c171_2, e171, hx171_0, hx171_1, hx171_2, hl171_2, hi171_2⟩ := at_T28 (Kd.N_reads' HO_3.out).2.2 x9_2 p171 q171
                        cases e171
                        obtain ⟨ce171, hce171, hMe171, hcc171⟩ := Kd.N_get HO_3.out z28 x9_2 p171 (by first | exact q171 | exact of_decide_eq_true (by first | (with_reducible assumption) | assumption) | (have e_ := (Kd.N_reads' HO_3.out).1; omega))
                        obtain ⟨ua171_2, uc171_2, rfl, ul171_2, ge171_2⟩ := k28_openF hMe171
                        have hv171_2 := hcc171 2 _ rfl
                        rw [add_field _ _ 2 (by omega)] at hv171_2
                        replace hv171_2 := Option.some.inj (hv171_2.symm.trans hx171_2)
                        injection hv171_2 with hva_ hvn_ hvc_
                        rw [hva_] at ge171_2
                        rw [hvc_] at ul171_2
                        have HL171_2 := Aside0.mk (show Kd.V Kd.string 9 _ w.heap.size _ _ ((rd_T28 t156 x9_2).f2) from Kd.V_mk ul171_2 ge171_2)
                        clear hva_ hvn_ hvc_ ge171_2 ul171_2
                        clear hcc171 hce171
                        have HR171_2 := Aside0.mk hi171_2
                        have HC171_2 := Aside0.mk hl171_2
                        clear hi171_2 hl171_2
                        replace p171 := eq_true p171
                        replace q171 := eq_true q171
                        obtain ⟨Ao20, co20, eo20⟩ := Kd.N_slice HO_6.out
                        subst eo20
                        have p172 : 0 ≤ (x9_2 : Int) := of_decide_eq_true (by first | (with_reducible assumption) | assumption)
                        have q172 : x9_2 < (t161.length : Int) := of_decide_eq_true (by first | (with_reducible assumption) | assumption)
                        obtain ⟨ad172, A172_2, c172_2, e172, hx172_0, hx172_1, hx172_2, hl172_2, hi172_2⟩ := at_T28 (Kd.N_reads' HO_6.out).2.2 x9_2 p172 q172
                        cases e172
                        obtain ⟨ce172, hce172, hMe172, hcc172⟩ := Kd.N_get HO_6.out z28 x9_2 p172 (by first | exact q172 | exact of_decide_eq_true (by first | (with_reducible assumption) | assumption) | (have e_ := (Kd.N_reads' HO_6.out).1; omega))
                        obtain ⟨ua172_2, uc172_2, rfl, ul172_2, ge172_2⟩ := k28_openF hMe172
                        have hv172_2 := hcc172 2 _ rfl
                        rw [add_field _ _ 2 (by omega)] at hv172_2
                        replace hv172_2 := Option.some.inj (hv172_2.symm.trans hx172_2)
                        injection hv172_2 with hva_ hvn_ hvc_
                        rw [hva_] at ge172_2
                        rw [hvc_] at ul172_2
                        have HL172_2 := Aside0.mk (show Kd.V Kd.string 9 _ w.heap.size _ _ ((rd_T28 t161 x9_2).f2) from Kd.V_mk ul172_2 ge172_2)
                        clear hva_ hvn_ hvc_ ge172_2 ul172_2
                        clear hcc172 hce172
                        have HR172_2 := Aside0.mk hi172_2
                        have HC172_2 := Aside0.mk hl172_2
                        clear hi172_2 hl172_2
                        replace p172 := eq_true p172
                        replace q172 := eq_true q172
                        have p173 : 0 ≤ (x9_2 : Int) := of_decide_eq_true (by first | (with_reducible assumption) | assumption)
                        have q173 : x9_2 < (t156.length : Int) := of_decide_eq_true (by first | (with_reducible assumption) | assumption)
                        obtain ⟨ad173, A173_2, c173_2, e173, hx173_0, hx173_1, hx173_2, hl173_2, hi173_2⟩ := at_T28 (Kd.N_reads' HO_3.out).2.2 x9_2 p173 q173
                        obtain rfl : ad171 = ad173 := (by injection e173)
                        obtain ⟨ce173, hce173, hMe173, hcc173⟩ := Kd.N_get HO_3.out z28 x9_2 p173 (by first | exact q173 | exact of_decide_eq_true (by first | (with_reducible assumption) | assumption) | (have e_ := (Kd.N_reads' HO_3.out).1; omega))
                        obtain ⟨ua173_2, uc173_2, rfl, ul173_2, ge173_2⟩ := k28_openF hMe173
                        have hv173_2 := hcc173 2 _ rfl
                        rw [add_field _ _ 2 (by omega)] at hv173_2
                        replace hv173_2 := Option.some.inj (hv173_2.symm.trans hx173_2)
                        injection hv173_2 with hva_ hvn_ hvc_
                        rw [hva_] at ge173_2
                        rw [hvc_] at ul173_2
                        have HL173_2 := Aside0.mk (show Kd.V Kd.string 9 _ w.heap.size _ _ ((rd_T28 t156 x9_2).f2) from Kd.V_mk ul173_2 ge173_2)
                        clear hva_ hvn_ hvc_ ge173_2 ul173_2
                        clear hcc173 hce173
                        have HR173_2 := Aside0.mk hi173_2
                        have HC173_2 := Aside0.mk hl173_2
                        clear hi173_2 hl173_2
                        replace p173 := eq_true p173
                        replace q173 := eq_true q173
                        have ea_ := Option.some.inj (hx171_2.symm.trans hx173_2)
                        injection ea_ with ea_ en_ ec_
                        subst ea_
                        subst ec_
                        clear en_
                        have p174 : 0 ≤ (x9_2 : Int) := of_decide_eq_true (by first | (with_reducible assumption) | assumption)
                        have q174 : x9_2 < (t161.length : Int) := of_decide_eq_true (by first | (with_reducible assumption) | assumption)
                        obtain ⟨ad174, A174_2, c174_2, e174, hx174_0, hx174_1, hx174_2, hl174_2, hi174_2⟩ := at_T28 (Kd.N_reads' HO_6.out).2.2 x9_2 p174 q174
                        obtain rfl : ad172 = ad174 := (by injection e174)
                        obtain ⟨ce174, hce174, hMe174, hcc174⟩ := Kd.N_get HO_6.out z28 x9_2 p174 (by first | exact q174 | exact of_decide_eq_true (by first | (with_reducible assumption) | assumption) | (have e_ := (Kd.N_reads' HO_6.out).1; omega))
                        obtain ⟨ua174_2, uc174_2, rfl, ul174_2, ge174_2⟩ := k28_openF hMe174
                        have hv174_2 := hcc174 2 _ rfl
                        rw [add_field _ _ 2 (by omega)] at hv174_2
                        replace hv174_2 := Option.some.inj (hv174_2.symm.trans hx174_2)
                        injection hv174_2 with hva_ hvn_ hvc_
                        rw [hva_] at ge174_2
                        rw [hvc_] at ul174_2
                        have HL174_2 := Aside0.mk (show Kd.V Kd.string 9 _ w.heap.size _ _ ((rd_T28 t161 x9_2).f2) from Kd.V_mk ul174_2 ge174_2)
                        clear hva_ hvn_ hvc_ ge174_2 ul174_2
                        clear hcc174 hce174
                        have HR174_2 := Aside0.mk hi174_2
                        have HC174_2 := Aside0.mk hl174_2
                        clear hi174_2 hl174_2
                        replace p174 := eq_true p174
                        replace q174 := eq_true q174
                        have ea_ := Option.some.inj (hx172_2.symm.trans hx174_2)
                        injection ea_ with ea_ en_ ec_
                        subst ea_
                        subst ec_
                        clear en_
                        go_wp2
                        repeat (go_quiet (fail); try go_wp2)
                        go_meet
                        case rel => exact ⟨_, (true), (by first | rfl | (simp; done) | (simp [*]; done)), H', ⟨by have := HJ3.out; have := HK2.out; first | omega | exact Nat.le_refl _⟩, ⟨by (with_reducible repeat (first | apply Kd.N_alloc | apply Kd.N_drewN | apply Kd.N_drew)); exact HO_3.out⟩, ⟨by (with_reducible repeat (first | apply Kd.N_alloc | apply Kd.N_drewN | apply Kd.N_drew)); exact HO_6.out⟩, ⟨by repeat (first | (with_reducible first | exact HB.out | apply below_alloc | apply pw_below_drewN | apply below_drew1) | exact HB.out)⟩⟩
                    · rw [if_neg c17] at H
                      have c17b0 : (((rd_T28 t156 x9_2).f0) == ((rd_T28 t161 x9_2).f0)) = false := beq_eq_false_iff_ne.mpr c17
                      have c17b1 : (((rd_T28 t156 x9_2).f0) != ((rd_T28 t161 x9_2).f0)) = true := bne_iff_ne.mpr c17
                      have H' := Aside0.mk H
                      clear H
                      have p171 : 0 ≤ (x9_2 : Int) := of_decide_eq_true (by first | (with_reducible assumption) | assumption)
                      have q171 : x9_2 < (t156.length : Int) := of_decide_eq_true (by first | (with_reducible assumption) | assumption)
                      obtain ⟨ad171, A171_2, c171_2, e171, hx171_0, hx171_1, hx171_2, hl171_2, hi171_2⟩ := at_T28 (Kd.N_reads' HO_3.out).2.2 x9_2 p171 q171
                      cases e171
                      obtain ⟨ce171, hce171, hMe171, hcc171⟩ := Kd.N_get HO_3.out z28 x9_2 p171 (by first | exact q171 | exact of_decide_eq_true (by first | (with_reducible assumption) | assumption) | (have e_ := (Kd.N_reads' HO_3.out).1; omega))
                      obtain ⟨ua171_2, uc171_2, rfl, ul171_2, ge171_2⟩ := k28_openF hMe171
                      have hv171_2 := hcc171 2 _ rfl
                      rw [add_field _ _ 2 (by omega)] at hv171_2
                      replace hv171_2 := Option.some.inj (hv171_2.symm.trans hx171_2)
                      injection hv171_2 with hva_ hvn_ hvc_
                      rw [hva_] at ge171_2
                      rw [hvc_] at ul171_2
                      have HL171_2 := Aside0.mk (show Kd.V Kd.string 9 _ w.heap.size _ _ ((rd_T28 t156 x9_2).f2) from Kd.V_mk ul171_2 ge171_2)
                      clear hva_ hvn_ hvc_ ge171_2 ul171_2
                      clear hcc171 hce171
                      have HR171_2 := Aside0.mk hi171_2
                      have HC171_2 := Aside0.mk hl171_2
                      clear hi171_2 hl171_2
                      replace p171 := eq_true p171
                      replace q171 := eq_true q171
                      obtain ⟨Ao21, co21, eo21⟩ := Kd.N_slice HO_6.out
                      subst eo21
                      have p172 : 0 ≤ (x9_2 : Int) := of_decide_eq_true (by first | (with_reducible assumption) | assumption)
                      have q172 : x9_2 < (t161.length : Int) := of_decide_eq_true (by first | (with_reducible assumption) | assumption)
                      obtain ⟨ad172, A172_2, c172_2, e172, hx172_0, hx172_1, hx172_2, hl172_2, hi172_2⟩ := at_T28 (Kd.N_reads' HO_6.out).2.2 x9_2 p172 q172
                      cases e172
                      obtain ⟨ce172, hce172, hMe172, hcc172⟩ := Kd.N_get HO_6.out z28 x9_2 p172 (by first | exact q172 | exact of_decide_eq_true (by first | (with_reducible assumption) | assumption) | (have e_ := (Kd.N_reads' HO_6.out).1; omega))
                      obtain ⟨ua172_2, uc172_2, rfl, ul172_2, ge172_2⟩ := k28_openF hMe172
                      have hv172_2 := hcc172 2 _ rfl
                      rw [add_field _ _ 2 (by omega)] at hv172_2
                      replace hv172_2 := Option.some.inj (hv172_2.symm.trans hx172_2)
                      injection hv172_2 with hva_ hvn_ hvc_
                      rw [hva_] at ge172_2
                      rw [hvc_] at ul172_2
                      have HL172_2 := Aside0.mk (show Kd.V Kd.string 9 _ w.heap.size _ _ ((rd_T28 t161 x9_2).f2) from Kd.V_mk ul172_2 ge172_2)
                      clear hva_ hvn_ hvc_ ge172_2 ul172_2
                      clear hcc172 hce172
                      have HR172_2 := Aside0.mk hi172_2
                      have HC172_2 := Aside0.mk hl172_2
                      clear hi172_2 hl172_2
                      replace p172 := eq_true p172
                      replace q172 := eq_true q172
                      go_wp2
                      repeat (go_quiet (fail); try go_wp2)
                      go_meet
                      case rel => exact ⟨_, (true), (by first | rfl | (simp; done) | (simp [*]; done)), H', ⟨by have := HJ3.out; have := HK2.out; first | omega | exact Nat.le_refl _⟩, ⟨by (with_reducible repeat (first | apply Kd.N_alloc | apply Kd.N_drewN | apply Kd.N_drew)); exact HO_3.out⟩, ⟨by (with_reducible repeat (first | apply Kd.N_alloc | apply Kd.N_drewN | apply Kd.N_drew)); exact HO_6.out⟩, ⟨by repeat (first | (with_reducible first | exact HB.out | apply below_alloc | apply pw_below_drewN | apply below_drew1) | exact HB.out)⟩⟩
                  · rw [if_neg c16] at H
                    exact absurd H (by simp)
                · rw [if_neg c15] at H
                  exact absurd H (by simp)
              case rest =>
                clear HC13
                try clear c1
                try clear p1
                try clear q1
                try clear hx1
                try clear p2
                try clear c3
                try clear c7
                try clear c7b0
                try clear c7b1
                try clear c8
                try clear c8b0
                try clear c8b1
                try clear c11
                try clear c12
                try clear c12b0
                try clear c15
                try clear c15b0
                try clear c16
                try clear c16b0
                try clear c17
                try clear c17b0
                try clear c17b1
                try clear p17
                try clear q17
                try clear hx17
                try clear c18
                try clear c18b0
                try clear c18b1
                try clear hx171_0
                try clear hx171_1
                try clear hx171_2
                try clear hx172_0
                try clear hx172_1
                try clear hx172_2
                try clear hx173_0
                try clear hx173_1
                try clear hx173_2
                try clear hx174_0
                try clear hx174_1
                try clear hx174_2
                try clear hx175_0
                try clear hx175_1
                try clear hx175_2
                try clear hx176_0
                try clear hx176_1
                try clear hx176_2
                try clear p171
                try clear p172
                try clear p173
                try clear p174
                try clear p175
                try clear p176
                try clear p2
                try clear q171
                try clear q172
                try clear q173
                try clear q174
                try clear q175
                try clear q176
                obtain ⟨kq, x85_12, rfl, HA, HJ12, HO_3, HO_6, HB⟩ := hcut
                cases kq with
                | zero => exact absurd HA.out (by simp [sedimentlaw30_ShellParses.j2])
                | succ kj12 =>
                  have H := HA.out
                  clear HA
                  simp only [sedimentlaw30_ShellParses.j2] at H
                  by_cases c22 : x85_12 = true
                  · subst c22
                    have H1 : (some false) = some r := by rw [if_pos rfl] at H; exact H
                    clear H
                    have H := H1
                    clear H1
                    obtain rfl := Option.some.inj H
                    go_wp2
                    repeat (go_quiet (fail); try go_wp2)
                    go_ret
                    exact ⟨by first | rfl | (simp [errW_none, errW_some] <;> rfl) | (simp [*, errW_none, errW_some] <;> rfl), by repeat (first | (with_reducible first | exact HB.out | apply below_alloc | apply pw_below_drewN | apply below_drew1) | exact HB.out)⟩
                  · replace c22 := Bool.eq_false_iff.mpr c22
                    subst c22
                    have H1 : (sedimentlaw30_ShellParses.l1 kj12 t156 t161 x9_2 0) = some r := by rw [if_neg (show ¬ (false = true) by decide)] at H; exact H
                    clear H
                    have H := H1
                    clear H1
                    have H' := Aside0.mk H
                    clear H
                    go_wp2
                    repeat (go_quiet (fail); try go_wp2)
                    go_loopg [10] kj12 (fun kq v10 w' => ∃ (x10_4 : Int), v10 = .int .i64 x10_4 ∧ Aside0 (sedimentlaw30_ShellParses.l1 kq t156 t161 x9_2 x10_4 = some r) ∧ Aside0 (kq ≤ kj12) ∧ Aside0 (Kd.N k28 28 w' w.heap.size (fun k_ => some k_ ≠ (v162 : Value).ownBlock) (.slice Ao14 t156.length co14) t156) ∧ Aside0 (Kd.N k28 28 w' w.heap.size (fun k_ => some k_ ≠ ((.slice Ao14 t156.length co14) : Value).ownBlock) v162 t161) ∧ Aside0 (Below w.heap.size w w'))
                    case atStart => exact ⟨(0), (by first | rfl | (simp; done) | (simp [*]; done)), H', ⟨Nat.le_refl _⟩, ⟨by (with_reducible repeat (first | apply Kd.N_alloc | apply Kd.N_drewN | apply Kd.N_drew)); exact HO_3.out⟩, ⟨by (with_reducible repeat (first | apply Kd.N_alloc | apply Kd.N_drewN | apply Kd.N_drew)); exact HO_6.out⟩, ⟨by repeat (first | (with_reducible first | exact HB.out | apply below_alloc | apply pw_below_drewN | apply below_drew1) | exact HB.out)⟩⟩
                    case round =>
                      clear H'
                      try clear c1
                      try clear p1
                      try clear q1
                      try clear hx1
                      try clear c2
                      try clear p2
                      try clear c3
                      try clear c7
                      try clear c7b0
                      try clear c7b1
                      try clear c8
                      try clear c8b0
                      try clear c8b1
                      try clear c11
                      try clear c12
                      try clear c12b0
                      try clear c15
                      try clear c15b0
                      try clear c16
                      try clear c16b0
                      try clear c17
                      try clear c17b0
                      try clear c17b1
                      try clear p17
                      try clear q17
                      try clear hx17
                      try clear c18
                      try clear c18b0
                      try clear c18b1
                      try clear c22
                      try clear hx171_0
                      try clear hx171_1
                      try clear hx171_2
                      try clear hx172_0
                      try clear hx172_1
                      try clear hx172_2
                      try clear hx173_0
                      try clear hx173_1
                      try clear hx173_2
                      try clear hx174_0
                      try clear hx174_1
                      try clear hx174_2
                      try clear hx175_0
                      try clear hx175_1
                      try clear hx175_2
                      try clear hx176_0
                      try clear hx176_1
                      try clear hx176_2
                      try clear p1
                      try clear p17
                      try clear p171
                      try clear p172
                      try clear p173
                      try clear p174
                      try clear p175
                      try clear p176
                      try clear p2
                      try clear q1
                      try clear q17
                      try clear q171
                      try clear q172
                      try clear q173
                      try clear q174
                      try clear q175
                      try clear q176
                      obtain ⟨x10_4, rfl, HA, HK4, HO_3, HO_6, HB⟩ := hrel
                      cases gk with
                      | zero => exact absurd HA.out (by simp [sedimentlaw30_ShellParses.l1])
                      | succ k4 =>
                        have H := HA.out
                        clear HA
                        simp only [sedimentlaw30_ShellParses.l1] at H
                        by_cases c23 : 0 ≤ x9_2
                        · rw [if_pos c23] at H
                          have c23b0 : decide (0 ≤ x9_2) = true := decide_eq_true c23
                          clear c23
                          by_cases c24 : x9_2 < (t156.length : Int)
                          · rw [if_pos c24] at H
                            have c24b0 : decide (x9_2 < (t156.length : Int)) = true := decide_eq_true c24
                            clear c24
                            by_cases c25 : x10_4 < (((rd_T28 t156 x9_2).f2).length : Int)
                            · rw [if_pos c25] at H
                              have c25b0 : decide (x10_4 < (((rd_T28 t156 x9_2).f2).length : Int)) = true := decide_eq_true c25
                              clear c25
                              by_cases c26 : 0 ≤ x10_4
                              · rw [if_pos c26] at H
                                have c26b0 : decide (0 ≤ x10_4) = true := decide_eq_true c26
                                clear c26
                                by_cases c27 : x9_2 < (t161.length : Int)
                                · rw [if_pos c27] at H
                                  have c27b0 : decide (x9_2 < (t161.length : Int)) = true := decide_eq_true c27
                                  clear c27
                                  by_cases c28 : x10_4 < (((rd_T28 t161 x9_2).f2).length : Int)
                                  · rw [if_pos c28] at H
                                    have c28b0 : decide (x10_4 < (((rd_T28 t161 x9_2).f2).length : Int)) = true := decide_eq_true c28
                                    clear c28
                                    by_cases c29 : (rdOf ByteArray.empty ((rd_T28 t156 x9_2).f2) x10_4).toList = (rdOf ByteArray.empty ((rd_T28 t161 x9_2).f2) x10_4).toList
                                    · rw [if_pos c29] at H
                                      have c29b0 : ((rdOf ByteArray.empty ((rd_T28 t156 x9_2).f2) x10_4).toList == (rdOf ByteArray.empty ((rd_T28 t161 x9_2).f2) x10_4).toList) = true := beq_iff_eq.mpr c29
                                      have c29b1 : ((rdOf ByteArray.empty ((rd_T28 t156 x9_2).f2) x10_4).toList != (rdOf ByteArray.empty ((rd_T28 t161 x9_2).f2) x10_4).toList) = false := bne_eq_false_iff_eq.mpr c29
                                      clear c29
                                      have H' := Aside0.mk H
                                      clear H
                                      have p177 : 0 ≤ (x9_2 : Int) := of_decide_eq_true (by first | (with_reducible assumption) | assumption)
                                      have q177 : x9_2 < (t156.length : Int) := of_decide_eq_true (by first | (with_reducible assumption) | assumption)
                                      obtain ⟨ad177, A177_2, c177_2, e177, hx177_0, hx177_1, hx177_2, hl177_2, hi177_2⟩ := at_T28 (Kd.N_reads' HO_3.out).2.2 x9_2 p177 q177
                                      cases e177
                                      obtain ⟨ce177, hce177, hMe177, hcc177⟩ := Kd.N_get HO_3.out z28 x9_2 p177 (by first | exact q177 | exact of_decide_eq_true (by first | (with_reducible assumption) | assumption) | (have e_ := (Kd.N_reads' HO_3.out).1; omega))
                                      obtain ⟨ua177_2, uc177_2, rfl, ul177_2, ge177_2⟩ := k28_openF hMe177
                                      have hv177_2 := hcc177 2 _ rfl
                                      rw [add_field _ _ 2 (by omega)] at hv177_2
                                      replace hv177_2 := Option.some.inj (hv177_2.symm.trans hx177_2)
                                      injection hv177_2 with hva_ hvn_ hvc_
                                      rw [hva_] at ge177_2
                                      rw [hvc_] at ul177_2
                                      have HL177_2 := Aside0.mk (show Kd.V Kd.string 9 _ w.heap.size _ _ ((rd_T28 t156 x9_2).f2) from Kd.V_mk ul177_2 ge177_2)
                                      clear hva_ hvn_ hvc_ ge177_2 ul177_2
                                      clear hcc177 hce177
                                      have HR177_2 := Aside0.mk hi177_2
                                      have HC177_2 := Aside0.mk hl177_2
                                      clear hi177_2 hl177_2
                                      replace p177 := eq_true p177
                                      replace q177 := eq_true q177
                                      have p178 : 0 ≤ (x9_2 : Int) := of_decide_eq_true (by first | (with_reducible assumption) | assumption)
                                      have q178 : x9_2 < (t156.length : Int) := of_decide_eq_true (by first | (with_reducible assumption) | assumption)
                                      obtain ⟨ad178, A178_2, c178_2, e178, hx178_0, hx178_1, hx178_2, hl178_2, hi178_2⟩ := at_T28 (Kd.N_reads' HO_3.out).2.2 x9_2 p178 q178
                                      obtain rfl : ad177 = ad178 := (by injection e178)
                                      obtain ⟨ce178, hce178, hMe178, hcc178⟩ := Kd.N_get HO_3.out z28 x9_2 p178 (by first | exact q178 | exact of_decide_eq_true (by first | (with_reducible assumption) | assumption) | (have e_ := (Kd.N_reads' HO_3.out).1; omega))
                                      obtain ⟨ua178_2, uc178_2, rfl, ul178_2, ge178_2⟩ := k28_openF hMe178
                                      have hv178_2 := hcc178 2 _ rfl
                                      rw [add_field _ _ 2 (by omega)] at hv178_2
                                      replace hv178_2 := Option.some.inj (hv178_2.symm.trans hx178_2)
                                      injection hv178_2 with hva_ hvn_ hvc_
                                      rw [hva_] at ge178_2
                                      rw [hvc_] at ul178_2
                                      have HL178_2 := Aside0.mk (show Kd.V Kd.string 9 _ w.heap.size _ _ ((rd_T28 t156 x9_2).f2) from Kd.V_mk ul178_2 ge178_2)
                                      clear hva_ hvn_ hvc_ ge178_2 ul178_2
                                      clear hcc178 hce178
                                      have HR178_2 := Aside0.mk hi178_2
                                      have HC178_2 := Aside0.mk hl178_2
                                      clear hi178_2 hl178_2
                                      replace p178 := eq_true p178
                                      replace q178 := eq_true q178
                                      have ea_ := Option.some.inj (hx177_2.symm.trans hx178_2)
                                      injection ea_ with ea_ en_ ec_
                                      subst ea_
                                      subst ec_
                                      clear en_
                                      have p179 : 0 ≤ (x10_4 : Int) := of_decide_eq_true (by first | (with_reducible assumption) | assumption)
                                      have q179 : x10_4 < (((rd_T28 t156 x9_2).f2).length : Int) := of_decide_eq_true (by first | (with_reducible assumption) | assumption)
                                      obtain ⟨ad179, e179, hx179_0⟩ := Kd.at_string (by repeat (first | (with_reducible exact HR178_2.out) | (with_reducible refine Kd.C_alloc ?_ _) | (with_reducible refine Kd.C_drewN ?_ _) | (with_reducible refine Kd.C_drew ?_) | exact HR178_2.out)) x10_4 p179 q179
                                      cases e179
                                      replace p179 := eq_true p179
                                      replace q179 := eq_true q179
                                      obtain ⟨Ao30, co30, eo30⟩ := Kd.N_slice HO_6.out
                                      subst eo30
                                      have p180 : 0 ≤ (x9_2 : Int) := of_decide_eq_true (by first | (with_reducible assumption) | assumption)
                                      have q180 : x9_2 < (t161.length : Int) := of_decide_eq_true (by first | (with_reducible assumption) | assumption)
                                      obtain ⟨ad180, A180_2, c180_2, e180, hx180_0, hx180_1, hx180_2, hl180_2, hi180_2⟩ := at_T28 (Kd.N_reads' HO_6.out).2.2 x9_2 p180 q180
                                      cases e180
                                      obtain ⟨ce180, hce180, hMe180, hcc180⟩ := Kd.N_get HO_6.out z28 x9_2 p180 (by first | exact q180 | exact of_decide_eq_true (by first | (with_reducible assumption) | assumption) | (have e_ := (Kd.N_reads' HO_6.out).1; omega))
                                      obtain ⟨ua180_2, uc180_2, rfl, ul180_2, ge180_2⟩ := k28_openF hMe180
                                      have hv180_2 := hcc180 2 _ rfl
                                      rw [add_field _ _ 2 (by omega)] at hv180_2
                                      replace hv180_2 := Option.some.inj (hv180_2.symm.trans hx180_2)
                                      injection hv180_2 with hva_ hvn_ hvc_
                                      rw [hva_] at ge180_2
                                      rw [hvc_] at ul180_2
                                      have HL180_2 := Aside0.mk (show Kd.V Kd.string 9 _ w.heap.size _ _ ((rd_T28 t161 x9_2).f2) from Kd.V_mk ul180_2 ge180_2)
                                      clear hva_ hvn_ hvc_ ge180_2 ul180_2
                                      clear hcc180 hce180
                                      have HR180_2 := Aside0.mk hi180_2
                                      have HC180_2 := Aside0.mk hl180_2
                                      clear hi180_2 hl180_2
                                      replace p180 := eq_true p180
                                      replace q180 := eq_true q180
                                      have p181 : 0 ≤ (x10_4 : Int) := of_decide_eq_true (by first | (with_reducible assumption) | assumption)
                                      have q181 : x10_4 < (((rd_T28 t161 x9_2).f2).length : Int) := of_decide_eq_true (by first | (with_reducible assumption) | assumption)
                                      obtain ⟨ad181, e181, hx181_0⟩ := Kd.at_string (by repeat (first | (with_reducible exact HR180_2.out) | (with_reducible refine Kd.C_alloc ?_ _) | (with_reducible refine Kd.C_drewN ?_ _) | (with_reducible refine Kd.C_drew ?_) | exact HR180_2.out)) x10_4 p181 q181
                                      cases e181
                                      replace p181 := eq_true p181
                                      replace q181 := eq_true q181
                                      go_wp2
                                      repeat (go_quiet (fail); try go_wp2)
                                      go_roundg k4
                                      case measure => have := HJ3.out; have := HK2.out; have := HJ12.out; have := HK4.out; omega
                                      case rel => exact ⟨(wrap64 (x10_4 + 1)), (by first | rfl | (simp; done) | (simp [*]; done)), H', ⟨by have := HJ3.out; have := HK2.out; have := HJ12.out; have := HK4.out; omega⟩, ⟨by (with_reducible repeat (first | apply Kd.N_alloc | apply Kd.N_drewN | apply Kd.N_drew)); exact HO_3.out⟩, ⟨by (with_reducible repeat (first | apply Kd.N_alloc | apply Kd.N_drewN | apply Kd.N_drew)); exact HO_6.out⟩, ⟨by repeat (first | (with_reducible first | exact HB.out | apply below_alloc | apply pw_below_drewN | apply below_drew1) | exact HB.out)⟩⟩
                                    · rw [if_neg c29] at H
                                      have c29b0 : ((rdOf ByteArray.empty ((rd_T28 t156 x9_2).f2) x10_4).toList == (rdOf ByteArray.empty ((rd_T28 t161 x9_2).f2) x10_4).toList) = false := beq_eq_false_iff_ne.mpr c29
                                      have c29b1 : ((rdOf ByteArray.empty ((rd_T28 t156 x9_2).f2) x10_4).toList != (rdOf ByteArray.empty ((rd_T28 t161 x9_2).f2) x10_4).toList) = true := bne_iff_ne.mpr c29
                                      obtain rfl := Option.some.inj H
                                      have p177 : 0 ≤ (x9_2 : Int) := of_decide_eq_true (by first | (with_reducible assumption) | assumption)
                                      have q177 : x9_2 < (t156.length : Int) := of_decide_eq_true (by first | (with_reducible assumption) | assumption)
                                      obtain ⟨ad177, A177_2, c177_2, e177, hx177_0, hx177_1, hx177_2, hl177_2, hi177_2⟩ := at_T28 (Kd.N_reads' HO_3.out).2.2 x9_2 p177 q177
                                      cases e177
                                      obtain ⟨ce177, hce177, hMe177, hcc177⟩ := Kd.N_get HO_3.out z28 x9_2 p177 (by first | exact q177 | exact of_decide_eq_true (by first | (with_reducible assumption) | assumption) | (have e_ := (Kd.N_reads' HO_3.out).1; omega))
                                      obtain ⟨ua177_2, uc177_2, rfl, ul177_2, ge177_2⟩ := k28_openF hMe177
                                      have hv177_2 := hcc177 2 _ rfl
                                      rw [add_field _ _ 2 (by omega)] at hv177_2
                                      replace hv177_2 := Option.some.inj (hv177_2.symm.trans hx177_2)
                                      injection hv177_2 with hva_ hvn_ hvc_
                                      rw [hva_] at ge177_2
                                      rw [hvc_] at ul177_2
                                      have HL177_2 := Aside0.mk (show Kd.V Kd.string 9 _ w.heap.size _ _ ((rd_T28 t156 x9_2).f2) from Kd.V_mk ul177_2 ge177_2)
                                      clear hva_ hvn_ hvc_ ge177_2 ul177_2
                                      clear hcc177 hce177
                                      have HR177_2 := Aside0.mk hi177_2
                                      have HC177_2 := Aside0.mk hl177_2
                                      clear hi177_2 hl177_2
                                      replace p177 := eq_true p177
                                      replace q177 := eq_true q177
                                      have p178 : 0 ≤ (x9_2 : Int) := of_decide_eq_true (by first | (with_reducible assumption) | assumption)
                                      have q178 : x9_2 < (t156.length : Int) := of_decide_eq_true (by first | (with_reducible assumption) | assumption)
                                      obtain ⟨ad178, A178_2, c178_2, e178, hx178_0, hx178_1, hx178_2, hl178_2, hi178_2⟩ := at_T28 (Kd.N_reads' HO_3.out).2.2 x9_2 p178 q178
                                      obtain rfl : ad177 = ad178 := (by injection e178)
                                      obtain ⟨ce178, hce178, hMe178, hcc178⟩ := Kd.N_get HO_3.out z28 x9_2 p178 (by first | exact q178 | exact of_decide_eq_true (by first | (with_reducible assumption) | assumption) | (have e_ := (Kd.N_reads' HO_3.out).1; omega))
                                      obtain ⟨ua178_2, uc178_2, rfl, ul178_2, ge178_2⟩ := k28_openF hMe178
                                      have hv178_2 := hcc178 2 _ rfl
                                      rw [add_field _ _ 2 (by omega)] at hv178_2
                                      replace hv178_2 := Option.some.inj (hv178_2.symm.trans hx178_2)
                                      injection hv178_2 with hva_ hvn_ hvc_
                                      rw [hva_] at ge178_2
                                      rw [hvc_] at ul178_2
                                      have HL178_2 := Aside0.mk (show Kd.V Kd.string 9 _ w.heap.size _ _ ((rd_T28 t156 x9_2).f2) from Kd.V_mk ul178_2 ge178_2)
                                      clear hva_ hvn_ hvc_ ge178_2 ul178_2
                                      clear hcc178 hce178
                                      have HR178_2 := Aside0.mk hi178_2
                                      have HC178_2 := Aside0.mk hl178_2
                                      clear hi178_2 hl178_2
                                      replace p178 := eq_true p178
                                      replace q178 := eq_true q178
                                      have ea_ := Option.some.inj (hx177_2.symm.trans hx178_2)
                                      injection ea_ with ea_ en_ ec_
                                      subst ea_
                                      subst ec_
                                      clear en_
                                      have p179 : 0 ≤ (x10_4 : Int) := of_decide_eq_true (by first | (with_reducible assumption) | assumption)
                                      have q179 : x10_4 < (((rd_T28 t156 x9_2).f2).length : Int) := of_decide_eq_true (by first | (with_reducible assumption) | assumption)
                                      obtain ⟨ad179, e179, hx179_0⟩ := Kd.at_string (by repeat (first | (with_reducible exact HR178_2.out) | (with_reducible refine Kd.C_alloc ?_ _) | (with_reducible refine Kd.C_drewN ?_ _) | (with_reducible refine Kd.C_drew ?_) | exact HR178_2.out)) x10_4 p179 q179
                                      cases e179
                                      replace p179 := eq_true p179
                                      replace q179 := eq_true q179
                                      obtain ⟨Ao31, co31, eo31⟩ := Kd.N_slice HO_6.out
                                      subst eo31
                                      have p180 : 0 ≤ (x9_2 : Int) := of_decide_eq_true (by first | (with_reducible assumption) | assumption)
                                      have q180 : x9_2 < (t161.length : Int) := of_decide_eq_true (by first | (with_reducible assumption) | assumption)
                                      obtain ⟨ad180, A180_2, c180_2, e180, hx180_0, hx180_1, hx180_2, hl180_2, hi180_2⟩ := at_T28 (Kd.N_reads' HO_6.out).2.2 x9_2 p180 q180
                                      cases e180
                                      obtain ⟨ce180, hce180, hMe180, hcc180⟩ := Kd.N_get HO_6.out z28 x9_2 p180 (by first | exact q180 | exact of_decide_eq_true (by first | (with_reducible assumption) | assumption) | (have e_ := (Kd.N_reads' HO_6.out).1; omega))
                                      obtain ⟨ua180_2, uc180_2, rfl, ul180_2, ge180_2⟩ := k28_openF hMe180
                                      have hv180_2 := hcc180 2 _ rfl
                                      rw [add_field _ _ 2 (by omega)] at hv180_2
                                      replace hv180_2 := Option.some.inj (hv180_2.symm.trans hx180_2)
                                      injection hv180_2 with hva_ hvn_ hvc_
                                      rw [hva_] at ge180_2
                                      rw [hvc_] at ul180_2
                                      have HL180_2 := Aside0.mk (show Kd.V Kd.string 9 _ w.heap.size _ _ ((rd_T28 t161 x9_2).f2) from Kd.V_mk ul180_2 ge180_2)
                                      clear hva_ hvn_ hvc_ ge180_2 ul180_2
                                      clear hcc180 hce180
                                      have HR180_2 := Aside0.mk hi180_2
                                      have HC180_2 := Aside0.mk hl180_2
                                      clear hi180_2 hl180_2
                                      replace p180 := eq_true p180
                                      replace q180 := eq_true q180
                                      have p181 : 0 ≤ (x10_4 : Int) := of_decide_eq_true (by first | (with_reducible assumption) | assumption)
                                      have q181 : x10_4 < (((rd_T28 t161 x9_2).f2).length : Int) := of_decide_eq_true (by first | (with_reducible assumption) | assumption)
                                      obtain ⟨ad181, e181, hx181_0⟩ := Kd.at_string (by repeat (first | (with_reducible exact HR180_2.out) | (with_reducible refine Kd.C_alloc ?_ _) | (with_reducible refine Kd.C_drewN ?_ _) | (with_reducible refine Kd.C_drew ?_) | exact HR180_2.out)) x10_4 p181 q181
                                      cases e181
                                      replace p181 := eq_true p181
                                      replace q181 := eq_true q181
                                      go_wp2
                                      repeat (go_quiet (fail); try go_wp2)
                                      go_ret
                                      exact ⟨by first | rfl | (simp [errW_none, errW_some] <;> rfl) | (simp [*, errW_none, errW_some] <;> rfl), by repeat (first | (with_reducible first | exact HB.out | apply below_alloc | apply pw_below_drewN | apply below_drew1) | exact HB.out)⟩
                                  · rw [if_neg c28] at H
                                    exact absurd H (by simp)
                                · rw [if_neg c27] at H
                                  exact absurd H (by simp)
                              · rw [if_neg c26] at H
                                exact absurd H (by simp)
                            · rw [if_neg c25] at H
                              have c25b0 : decide (x10_4 < (((rd_T28 t156 x9_2).f2).length : Int)) = false := decide_eq_false c25
                              clear c25
                              have H' := Aside0.mk H
                              clear H
                              have p177 : 0 ≤ (x9_2 : Int) := of_decide_eq_true (by first | (with_reducible assumption) | assumption)
                              have q177 : x9_2 < (t156.length : Int) := of_decide_eq_true (by first | (with_reducible assumption) | assumption)
                              obtain ⟨ad177, A177_2, c177_2, e177, hx177_0, hx177_1, hx177_2, hl177_2, hi177_2⟩ := at_T28 (Kd.N_reads' HO_3.out).2.2 x9_2 p177 q177
                              cases e177
                              obtain ⟨ce177, hce177, hMe177, hcc177⟩ := Kd.N_get HO_3.out z28 x9_2 p177 (by first | exact q177 | exact of_decide_eq_true (by first | (with_reducible assumption) | assumption) | (have e_ := (Kd.N_reads' HO_3.out).1; omega))
                              obtain ⟨ua177_2, uc177_2, rfl, ul177_2, ge177_2⟩ := k28_openF hMe177
                              have hv177_2 := hcc177 2 _ rfl
                              rw [add_field _ _ 2 (by omega)] at hv177_2
                              replace hv177_2 := Option.some.inj (hv177_2.symm.trans hx177_2)
                              injection hv177_2 with hva_ hvn_ hvc_
                              rw [hva_] at ge177_2
                              rw [hvc_] at ul177_2
                              have HL177_2 := Aside0.mk (show Kd.V Kd.string 9 _ w.heap.size _ _ ((rd_T28 t156 x9_2).f2) from Kd.V_mk ul177_2 ge177_2)
                              clear hva_ hvn_ hvc_ ge177_2 ul177_2
                              clear hcc177 hce177
                              have HR177_2 := Aside0.mk hi177_2
                              have HC177_2 := Aside0.mk hl177_2
                              clear hi177_2 hl177_2
                              replace p177 := eq_true p177
                              replace q177 := eq_true q177
                              go_wp2
                              repeat (go_quiet (fail); try go_wp2)
                              go_roundg k4
                              case measure => have := HJ3.out; have := HK2.out; have := HJ12.out; have := HK4.out; omega
                              case rel => exact ⟨(wrap64 (x9_2 + 1)), (by first | rfl | (simp; done) | (simp [*]; done)), H', ⟨by have := HJ3.out; have := HK2.out; have := HJ12.out; have := HK4.out; omega⟩, ⟨by (with_reducible repeat (first | apply Kd.N_alloc | apply Kd.N_drewN | apply Kd.N_drew)); exact HO_3.out⟩, ⟨by (with_reducible repeat (first | apply Kd.N_alloc | apply Kd.N_drewN | apply Kd.N_drew)); exact HO_6.out⟩, ⟨by repeat (first | (with_reducible first | exact HB.out | apply below_alloc | apply pw_below_drewN | apply below_drew1) | exact HB.out)⟩⟩
                          · rw [if_neg c24] at H
                            exact absurd H (by simp)
                        · rw [if_neg c23] at H
                          exact absurd H (by simp)
            · rw [if_neg c12] at H
              have c12b0 : decide (x9_2 < (t156.length : Int)) = false := decide_eq_false c12
              clear c12
              replace H := Option.bind_eq_some_iff.mp H
              obtain ⟨⟨t166, t169, t170⟩, A320, H⟩ := H
              replace H : (if (t166.length : Int) = 1 then (some (t170 == 0)) else (some false)) = some r := H
              have A32 := Aside0.mk A320
              clear A320
              by_cases c33 : (t166.length : Int) = 1
              · rw [if_pos c33] at H
                have c33b0 : ((t166.length : Int) == 1) = true := beq_iff_eq.mpr c33
                have c33b1 : ((t166.length : Int) != 1) = false := bne_eq_false_iff_eq.mpr c33
                clear c33
                obtain rfl := Option.some.inj H
                obtain ⟨Ao34, co34, eo34⟩ := Kd.N_slice HO_3.out
                subst eo34
                go_wp2_with (first | (go_at_call 4; (with_reducible refine (shell_Parse.calls k2 (⟨#[108, 97, 115, 116, 10]⟩ : ByteArray) t166 t169 t170 _ A32.out).mono ?_); rintro e w35 ⟨v167, rfl, ho0, hb⟩; have n0_ := Aside0.mk (Kd.N_elder' (by (with_reducible repeat (first | apply Kd.N_alloc | apply Kd.N_drewN | apply Kd.N_drew)); exact HO_3.out) (Kd.N_base ho0) hb); have n1_ := Aside0.mk (Kd.N_elder' (by (with_reducible repeat (first | apply Kd.N_alloc | apply Kd.N_drewN | apply Kd.N_drew)); exact HO_6.out) (Kd.N_base ho0) hb); have n2_ := Aside0.mk (Kd.N_lower (Kd.N_mono (ok' := fun k_ => some k_ ≠ (.slice Ao34 t156.length co34 : Value).ownBlock ∧ some k_ ≠ (v162 : Value).ownBlock) ho0 (fun k_ hk_ => ⟨(Kd.fresh' (Kd.N_lt (by (with_reducible repeat (first | apply Kd.N_alloc | apply Kd.N_drewN | apply Kd.N_drew)); exact HO_3.out)) k_ hk_), (Kd.fresh' (Kd.N_lt (by (with_reducible repeat (first | apply Kd.N_alloc | apply Kd.N_drewN | apply Kd.N_drew)); exact HO_6.out)) k_ hk_)⟩)) (below_size (by repeat (first | (with_reducible first | exact HB.out | apply below_alloc | apply pw_below_drewN | apply below_drew1) | exact HB.out)))); have n3_ := Aside0.mk (below_step (by repeat (first | (with_reducible first | exact HB.out | apply below_alloc | apply pw_below_drewN | apply below_drew1) | exact HB.out)) hb); clear HO_3; clear HO_6; clear HB; have HO_3 := n0_; have HO_6 := n1_; have HO168 := n2_; have HB := n3_; clear n0_ n1_ n2_ n3_; (try clear hb); (try clear hb2); (try clear hk); (try clear hi); (try clear ho0); obtain ⟨Ao36, co36, eo36⟩ := Kd.N_slice HO168.out; subst eo36))
                repeat (go_quiet (first | (go_at_call 4; (with_reducible refine (shell_Parse.calls k2 (⟨#[108, 97, 115, 116, 10]⟩ : ByteArray) t166 t169 t170 _ A32.out).mono ?_); rintro e w35 ⟨v167, rfl, ho0, hb⟩; have n0_ := Aside0.mk (Kd.N_elder' (by (with_reducible repeat (first | apply Kd.N_alloc | apply Kd.N_drewN | apply Kd.N_drew)); exact HO_3.out) (Kd.N_base ho0) hb); have n1_ := Aside0.mk (Kd.N_elder' (by (with_reducible repeat (first | apply Kd.N_alloc | apply Kd.N_drewN | apply Kd.N_drew)); exact HO_6.out) (Kd.N_base ho0) hb); have n2_ := Aside0.mk (Kd.N_lower (Kd.N_mono (ok' := fun k_ => some k_ ≠ (.slice Ao34 t156.length co34 : Value).ownBlock ∧ some k_ ≠ (v162 : Value).ownBlock) ho0 (fun k_ hk_ => ⟨(Kd.fresh' (Kd.N_lt (by (with_reducible repeat (first | apply Kd.N_alloc | apply Kd.N_drewN | apply Kd.N_drew)); exact HO_3.out)) k_ hk_), (Kd.fresh' (Kd.N_lt (by (with_reducible repeat (first | apply Kd.N_alloc | apply Kd.N_drewN | apply Kd.N_drew)); exact HO_6.out)) k_ hk_)⟩)) (below_size (by repeat (first | (with_reducible first | exact HB.out | apply below_alloc | apply pw_below_drewN | apply below_drew1) | exact HB.out)))); have n3_ := Aside0.mk (below_step (by repeat (first | (with_reducible first | exact HB.out | apply below_alloc | apply pw_below_drewN | apply below_drew1) | exact HB.out)) hb); clear HO_3; clear HO_6; clear HB; have HO_3 := n0_; have HO_6 := n1_; have HO168 := n2_; have HB := n3_; clear n0_ n1_ n2_ n3_; (try clear hb); (try clear hb2); (try clear hk); (try clear hi); (try clear ho0); obtain ⟨Ao36, co36, eo36⟩ := Kd.N_slice HO168.out; subst eo36)); try go_wp2_with (first | (go_at_call 4; (with_reducible refine (shell_Parse.calls k2 (⟨#[108, 97, 115, 116, 10]⟩ : ByteArray) t166 t169 t170 _ A32.out).mono ?_); rintro e w35 ⟨v167, rfl, ho0, hb⟩; have n0_ := Aside0.mk (Kd.N_elder' (by (with_reducible repeat (first | apply Kd.N_alloc | apply Kd.N_drewN | apply Kd.N_drew)); exact HO_3.out) (Kd.N_base ho0) hb); have n1_ := Aside0.mk (Kd.N_elder' (by (with_reducible repeat (first | apply Kd.N_alloc | apply Kd.N_drewN | apply Kd.N_drew)); exact HO_6.out) (Kd.N_base ho0) hb); have n2_ := Aside0.mk (Kd.N_lower (Kd.N_mono (ok' := fun k_ => some k_ ≠ (.slice Ao34 t156.length co34 : Value).ownBlock ∧ some k_ ≠ (v162 : Value).ownBlock) ho0 (fun k_ hk_ => ⟨(Kd.fresh' (Kd.N_lt (by (with_reducible repeat (first | apply Kd.N_alloc | apply Kd.N_drewN | apply Kd.N_drew)); exact HO_3.out)) k_ hk_), (Kd.fresh' (Kd.N_lt (by (with_reducible repeat (first | apply Kd.N_alloc | apply Kd.N_drewN | apply Kd.N_drew)); exact HO_6.out)) k_ hk_)⟩)) (below_size (by repeat (first | (with_reducible first | exact HB.out | apply below_alloc | apply pw_below_drewN | apply below_drew1) | exact HB.out)))); have n3_ := Aside0.mk (below_step (by repeat (first | (with_reducible first | exact HB.out | apply below_alloc | apply pw_below_drewN | apply below_drew1) | exact HB.out)) hb); clear HO_3; clear HO_6; clear HB; have HO_3 := n0_; have HO_6 := n1_; have HO168 := n2_; have HB := n3_; clear n0_ n1_ n2_ n3_; (try clear hb); (try clear hb2); (try clear hk); (try clear hi); (try clear ho0); obtain ⟨Ao36, co36, eo36⟩ := Kd.N_slice HO168.out; subst eo36)))
                go_ret
                exact ⟨by first | rfl | (simp [errW_none, errW_some] <;> rfl) | (simp [*, errW_none, errW_some] <;> rfl), by repeat (first | (with_reducible first | exact HB.out | apply below_alloc | apply pw_below_drewN | apply below_drew1) | exact HB.out)⟩
              · rw [if_neg c33] at H
                have c33b0 : ((t166.length : Int) == 1) = false := beq_eq_false_iff_ne.mpr c33
                have c33b1 : ((t166.length : Int) != 1) = true := bne_iff_ne.mpr c33
                obtain rfl := Option.some.inj H
                obtain ⟨Ao37, co37, eo37⟩ := Kd.N_slice HO_3.out
                subst eo37
                go_wp2_with (first | (go_at_call 4; (with_reducible refine (shell_Parse.calls k2 (⟨#[108, 97, 115, 116, 10]⟩ : ByteArray) t166 t169 t170 _ A32.out).mono ?_); rintro e w38 ⟨v167, rfl, ho0, hb⟩; have n0_ := Aside0.mk (Kd.N_elder' (by (with_reducible repeat (first | apply Kd.N_alloc | apply Kd.N_drewN | apply Kd.N_drew)); exact HO_3.out) (Kd.N_base ho0) hb); have n1_ := Aside0.mk (Kd.N_elder' (by (with_reducible repeat (first | apply Kd.N_alloc | apply Kd.N_drewN | apply Kd.N_drew)); exact HO_6.out) (Kd.N_base ho0) hb); have n2_ := Aside0.mk (Kd.N_lower (Kd.N_mono (ok' := fun k_ => some k_ ≠ (.slice Ao37 t156.length co37 : Value).ownBlock ∧ some k_ ≠ (v162 : Value).ownBlock) ho0 (fun k_ hk_ => ⟨(Kd.fresh' (Kd.N_lt (by (with_reducible repeat (first | apply Kd.N_alloc | apply Kd.N_drewN | apply Kd.N_drew)); exact HO_3.out)) k_ hk_), (Kd.fresh' (Kd.N_lt (by (with_reducible repeat (first | apply Kd.N_alloc | apply Kd.N_drewN | apply Kd.N_drew)); exact HO_6.out)) k_ hk_)⟩)) (below_size (by repeat (first | (with_reducible first | exact HB.out | apply below_alloc | apply pw_below_drewN | apply below_drew1) | exact HB.out)))); have n3_ := Aside0.mk (below_step (by repeat (first | (with_reducible first | exact HB.out | apply below_alloc | apply pw_below_drewN | apply below_drew1) | exact HB.out)) hb); clear HO_3; clear HO_6; clear HB; have HO_3 := n0_; have HO_6 := n1_; have HO168 := n2_; have HB := n3_; clear n0_ n1_ n2_ n3_; (try clear hb); (try clear hb2); (try clear hk); (try clear hi); (try clear ho0); obtain ⟨Ao39, co39, eo39⟩ := Kd.N_slice HO168.out; subst eo39))
                repeat (go_quiet (first | (go_at_call 4; (with_reducible refine (shell_Parse.calls k2 (⟨#[108, 97, 115, 116, 10]⟩ : ByteArray) t166 t169 t170 _ A32.out).mono ?_); rintro e w38 ⟨v167, rfl, ho0, hb⟩; have n0_ := Aside0.mk (Kd.N_elder' (by (with_reducible repeat (first | apply Kd.N_alloc | apply Kd.N_drewN | apply Kd.N_drew)); exact HO_3.out) (Kd.N_base ho0) hb); have n1_ := Aside0.mk (Kd.N_elder' (by (with_reducible repeat (first | apply Kd.N_alloc | apply Kd.N_drewN | apply Kd.N_drew)); exact HO_6.out) (Kd.N_base ho0) hb); have n2_ := Aside0.mk (Kd.N_lower (Kd.N_mono (ok' := fun k_ => some k_ ≠ (.slice Ao37 t156.length co37 : Value).ownBlock ∧ some k_ ≠ (v162 : Value).ownBlock) ho0 (fun k_ hk_ => ⟨(Kd.fresh' (Kd.N_lt (by (with_reducible repeat (first | apply Kd.N_alloc | apply Kd.N_drewN | apply Kd.N_drew)); exact HO_3.out)) k_ hk_), (Kd.fresh' (Kd.N_lt (by (with_reducible repeat (first | apply Kd.N_alloc | apply Kd.N_drewN | apply Kd.N_drew)); exact HO_6.out)) k_ hk_)⟩)) (below_size (by repeat (first | (with_reducible first | exact HB.out | apply below_alloc | apply pw_below_drewN | apply below_drew1) | exact HB.out)))); have n3_ := Aside0.mk (below_step (by repeat (first | (with_reducible first | exact HB.out | apply below_alloc | apply pw_below_drewN | apply below_drew1) | exact HB.out)) hb); clear HO_3; clear HO_6; clear HB; have HO_3 := n0_; have HO_6 := n1_; have HO168 := n2_; have HB := n3_; clear n0_ n1_ n2_ n3_; (try clear hb); (try clear hb2); (try clear hk); (try clear hi); (try clear ho0); obtain ⟨Ao39, co39, eo39⟩ := Kd.N_slice HO168.out; subst eo39)); try go_wp2_with (first | (go_at_call 4; (with_reducible refine (shell_Parse.calls k2 (⟨#[108, 97, 115, 116, 10]⟩ : ByteArray) t166 t169 t170 _ A32.out).mono ?_); rintro e w38 ⟨v167, rfl, ho0, hb⟩; have n0_ := Aside0.mk (Kd.N_elder' (by (with_reducible repeat (first | apply Kd.N_alloc | apply Kd.N_drewN | apply Kd.N_drew)); exact HO_3.out) (Kd.N_base ho0) hb); have n1_ := Aside0.mk (Kd.N_elder' (by (with_reducible repeat (first | apply Kd.N_alloc | apply Kd.N_drewN | apply Kd.N_drew)); exact HO_6.out) (Kd.N_base ho0) hb); have n2_ := Aside0.mk (Kd.N_lower (Kd.N_mono (ok' := fun k_ => some k_ ≠ (.slice Ao37 t156.length co37 : Value).ownBlock ∧ some k_ ≠ (v162 : Value).ownBlock) ho0 (fun k_ hk_ => ⟨(Kd.fresh' (Kd.N_lt (by (with_reducible repeat (first | apply Kd.N_alloc | apply Kd.N_drewN | apply Kd.N_drew)); exact HO_3.out)) k_ hk_), (Kd.fresh' (Kd.N_lt (by (with_reducible repeat (first | apply Kd.N_alloc | apply Kd.N_drewN | apply Kd.N_drew)); exact HO_6.out)) k_ hk_)⟩)) (below_size (by repeat (first | (with_reducible first | exact HB.out | apply below_alloc | apply pw_below_drewN | apply below_drew1) | exact HB.out)))); have n3_ := Aside0.mk (below_step (by repeat (first | (with_reducible first | exact HB.out | apply below_alloc | apply pw_below_drewN | apply below_drew1) | exact HB.out)) hb); clear HO_3; clear HO_6; clear HB; have HO_3 := n0_; have HO_6 := n1_; have HO168 := n2_; have HB := n3_; clear n0_ n1_ n2_ n3_; (try clear hb); (try clear hb2); (try clear hk); (try clear hi); (try clear ho0); obtain ⟨Ao39, co39, eo39⟩ := Kd.N_slice HO168.out; subst eo39)))
                go_ret
                exact ⟨by first | rfl | (simp [errW_none, errW_some] <;> rfl) | (simp [*, errW_none, errW_some] <;> rfl), by repeat (first | (with_reducible first | exact HB.out | apply below_alloc | apply pw_below_drewN | apply below_drew1) | exact HB.out)⟩

/-- THE ONE PURE STATEMENT of sedimentlaw30_ShellParses: yours. -/
def sedimentlaw30_ShellParses.Pure : Prop := ∀ (a0 : ByteArray), a0.size ≤ 140737488351232 → ∃ k, sedimentlaw30_ShellParses.f k a0 = some true
theorem sedimentlaw30_ShellParses.walk (P : sedimentlaw30_ShellParses.Pure) (a0 : ByteArray) (w : World) (w0 : a0.size ≤ 140737488351232) :
    Calls Tryd.prog 3 #[.string a0] w fun e w' => e = .returned (.bool true) ∧ Below w.heap.size w w' := by
  obtain ⟨k, h⟩ := P a0 w0
  refine (sedimentlaw30_ShellParses.calls k a0 true w h).mono ?_
  rintro e w' ⟨rfl, hd⟩
  exact ⟨rfl, hd⟩

end Go.Proofs.YtmjneidcdeeafaaDoor.QP
