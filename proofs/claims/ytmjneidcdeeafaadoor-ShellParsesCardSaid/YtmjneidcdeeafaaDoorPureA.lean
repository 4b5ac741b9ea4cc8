/- The plain half of ShellParses, second part: what the printed functions come to (Ev: from some number of rounds on), and that both readers come to one and the same list of commands, or to the same refused line. No memory in sight. -/
import Derived.Test.YtmjneidcdeeafaaDoorQPx8
import Derived.Test.YtmjneidcdeeafaaDoorPlain
namespace Go.Proofs.YtmjneidcdeeafaaDoor.Pure
open Go.RowKit Go.Lib Go.Proofs.YtmjneidcdeeafaaDoor.Plain Go.Proofs.YtmjneidcdeeafaaDoor.QP Go.Proofs.YtmjneidcdeeafaaDoorW.PrintWords Go.Proofs.YtmjneidcdeeafaaDoorW.PrintLast
set_option linter.unusedVariables false

def table : List (List UInt8 × List UInt8) := [
  ([119, 114, 105, 116, 101], []),
  ([102, 111, 114, 103, 101, 116], []),
  ([104, 111, 108, 100], []),
  ([115, 116, 101, 112], []),
  ([108, 97, 115, 116], []),
  ([102, 97, 109, 105, 108, 105, 101, 115], []),
  ([98, 101, 103, 105, 110], []),
  ([99, 111, 109, 109, 105, 116], []),
  ([97, 98, 111, 114, 116], []),
  ([115, 97, 118, 101], []),
  ([99, 114, 97, 115, 104], []),
  ([99, 104, 101, 99, 107], []),
  ([111, 112, 101, 110], [68]),
  ([100, 114, 111, 112], [68]),
  ([102, 114, 101, 101], [68]),
  ([102, 108, 117, 115, 104], [68]),
  ([108, 111, 115, 101], [68]),
  ([109, 97, 114, 107], [78]),
  ([115, 101, 101], [78]),
  ([109, 97, 107, 101], [78, 68]),
  ([115, 99, 97, 110], [68, 68]),
  ([98, 97, 99, 107], [68, 68]),
  ([100, 101, 108], [68, 78]),
  ([99, 117, 116], [68, 78]),
  ([114, 101, 97, 100], [68, 78]),
  ([117, 110, 115, 101, 116], [68, 78]),
  ([111, 108, 100], [68, 78]),
  ([112, 117, 116], [68, 78, 78]),
  ([114, 97, 110, 103, 101], [68, 78, 78]),
  ([97, 100, 100], [68, 78, 78]),
  ([99, 108, 101, 97, 114], [68, 78, 78]),
  ([99, 111, 109, 112, 97, 99, 116], [68, 78, 78]),
  ([115, 101, 116], [68, 78, 78]),
  ([103, 101, 116], [68, 78, 68]),
  ([116, 97, 107, 101], [68, 78, 78, 78, 78])]
def shapeL (l : List UInt8) : ByteArray × Bool := match table.find? (fun p => p.1 == l) with | some p => (toB p.2, true) | none => (⟨#[]⟩, false)
theorem shapeL_none (l : List UInt8) (h : table.find? (fun p => p.1 == l) = none) : shapeL l = (⟨#[]⟩, false) := by unfold shapeL; rw [h]
set_option maxRecDepth 100000 in
set_option maxHeartbeats 4000000 in
theorem shapes (l : List UInt8) : shell_shape.f 20 (toB l) = some (shapeL l) ∧ sedimentref30_Shape.f 20 (toB l) = some (shapeL l) := by
  by_cases h0 : l = [119, 114, 105, 116, 101]
  · subst h0; exact ⟨by kernel_rfl, by kernel_rfl⟩
  by_cases h1 : l = [102, 111, 114, 103, 101, 116]
  · subst h1; exact ⟨by kernel_rfl, by kernel_rfl⟩
  by_cases h2 : l = [104, 111, 108, 100]
  · subst h2; exact ⟨by kernel_rfl, by kernel_rfl⟩
  by_cases h3 : l = [115, 116, 101, 112]
  · subst h3; exact ⟨by kernel_rfl, by kernel_rfl⟩
  by_cases h4 : l = [108, 97, 115, 116]
  · subst h4; exact ⟨by kernel_rfl, by kernel_rfl⟩
  by_cases h5 : l = [102, 97, 109, 105, 108, 105, 101, 115]
  · subst h5; exact ⟨by kernel_rfl, by kernel_rfl⟩
  by_cases h6 : l = [98, 101, 103, 105, 110]
  · subst h6; exact ⟨by kernel_rfl, by kernel_rfl⟩
  by_cases h7 : l = [99, 111, 109, 109, 105, 116]
  · subst h7; exact ⟨by kernel_rfl, by kernel_rfl⟩
  by_cases h8 : l = [97, 98, 111, 114, 116]
  · subst h8; exact ⟨by kernel_rfl, by kernel_rfl⟩
  by_cases h9 : l = [115, 97, 118, 101]
  · subst h9; exact ⟨by kernel_rfl, by kernel_rfl⟩
  by_cases h10 : l = [99, 114, 97, 115, 104]
  · subst h10; exact ⟨by kernel_rfl, by kernel_rfl⟩
  by_cases h11 : l = [99, 104, 101, 99, 107]
  · subst h11; exact ⟨by kernel_rfl, by kernel_rfl⟩
  by_cases h12 : l = [111, 112, 101, 110]
  · subst h12; exact ⟨by kernel_rfl, by kernel_rfl⟩
  by_cases h13 : l = [100, 114, 111, 112]
  · subst h13; exact ⟨by kernel_rfl, by kernel_rfl⟩
  by_cases h14 : l = [102, 114, 101, 101]
  · subst h14; exact ⟨by kernel_rfl, by kernel_rfl⟩
  by_cases h15 : l = [102, 108, 117, 115, 104]
  · subst h15; exact ⟨by kernel_rfl, by kernel_rfl⟩
  by_cases h16 : l = [108, 111, 115, 101]
  · subst h16; exact ⟨by kernel_rfl, by kernel_rfl⟩
  by_cases h17 : l = [109, 97, 114, 107]
  · subst h17; exact ⟨by kernel_rfl, by kernel_rfl⟩
  by_cases h18 : l = [115, 101, 101]
  · subst h18; exact ⟨by kernel_rfl, by kernel_rfl⟩
  by_cases h19 : l = [109, 97, 107, 101]
  · subst h19; exact ⟨by kernel_rfl, by kernel_rfl⟩
  by_cases h20 : l = [115, 99, 97, 110]
  · subst h20; exact ⟨by kernel_rfl, by kernel_rfl⟩
  by_cases h21 : l = [98, 97, 99, 107]
  · subst h21; exact ⟨by kernel_rfl, by kernel_rfl⟩
  by_cases h22 : l = [100, 101, 108]
  · subst h22; exact ⟨by kernel_rfl, by kernel_rfl⟩
  by_cases h23 : l = [99, 117, 116]
  · subst h23; exact ⟨by kernel_rfl, by kernel_rfl⟩
  by_cases h24 : l = [114, 101, 97, 100]
  · subst h24; exact ⟨by kernel_rfl, by kernel_rfl⟩
  by_cases h25 : l = [117, 110, 115, 101, 116]
  · subst h25; exact ⟨by kernel_rfl, by kernel_rfl⟩
  by_cases h26 : l = [111, 108, 100]
  · subst h26; exact ⟨by kernel_rfl, by kernel_rfl⟩
  by_cases h27 : l = [112, 117, 116]
  · subst h27; exact ⟨by kernel_rfl, by kernel_rfl⟩
  by_cases h28 : l = [114, 97, 110, 103, 101]
  · subst h28; exact ⟨by kernel_rfl, by kernel_rfl⟩
  by_cases h29 : l = [97, 100, 100]
  · subst h29; exact ⟨by kernel_rfl, by kernel_rfl⟩
  by_cases h30 : l = [99, 108, 101, 97, 114]
  · subst h30; exact ⟨by kernel_rfl, by kernel_rfl⟩
  by_cases h31 : l = [99, 111, 109, 112, 97, 99, 116]
  · subst h31; exact ⟨by kernel_rfl, by kernel_rfl⟩
  by_cases h32 : l = [115, 101, 116]
  · subst h32; exact ⟨by kernel_rfl, by kernel_rfl⟩
  by_cases h33 : l = [103, 101, 116]
  · subst h33; exact ⟨by kernel_rfl, by kernel_rfl⟩
  by_cases h34 : l = [116, 97, 107, 101]
  · subst h34; exact ⟨by kernel_rfl, by kernel_rfl⟩
  have hn : table.find? (fun p => p.1 == l) = none := by
    refine List.find?_eq_none.2 fun p hp => ?_
    simp only [table, List.mem_cons, List.mem_nil_iff, or_false] at hp
    rcases hp with rfl | rfl | rfl | rfl | rfl | rfl | rfl | rfl | rfl | rfl | rfl | rfl | rfl | rfl | rfl | rfl | rfl | rfl | rfl | rfl | rfl | rfl | rfl | rfl | rfl | rfl | rfl | rfl | rfl | rfl | rfl | rfl | rfl | rfl | rfl <;> simp only [beq_iff_eq] <;> exact fun e => by first | exact h0 e.symm | exact h1 e.symm | exact h2 e.symm | exact h3 e.symm | exact h4 e.symm | exact h5 e.symm | exact h6 e.symm | exact h7 e.symm | exact h8 e.symm | exact h9 e.symm | exact h10 e.symm | exact h11 e.symm | exact h12 e.symm | exact h13 e.symm | exact h14 e.symm | exact h15 e.symm | exact h16 e.symm | exact h17 e.symm | exact h18 e.symm | exact h19 e.symm | exact h20 e.symm | exact h21 e.symm | exact h22 e.symm | exact h23 e.symm | exact h24 e.symm | exact h25 e.symm | exact h26 e.symm | exact h27 e.symm | exact h28 e.symm | exact h29 e.symm | exact h30 e.symm | exact h31 e.symm | exact h32 e.symm | exact h33 e.symm | exact h34 e.symm
  rw [shapeL_none l hn]
  have ht : (toB l).toList = l := by rw [toList_data, toB_data]
  constructor
  · simp [shell_shape.f, shell_shape.j0, shell_shape.j1, shell_shape.j2, shell_shape.j3, shell_shape.j4, shell_shape.j5, ht, h0, h1, h2, h3, h4, h5, h6, h7, h8, h9, h10, h11, h12, h13, h14, h15, h16, h17, h18, h19, h20, h21, h22, h23, h24, h25, h26, h27, h28, h29, h30, h31, h32, h33, h34]
  · simp [sedimentref30_Shape.f, sedimentref30_Shape.j0, sedimentref30_Shape.j1, sedimentref30_Shape.j2, sedimentref30_Shape.j3, sedimentref30_Shape.j4, sedimentref30_Shape.j5, ht, h0, h1, h2, h3, h4, h5, h6, h7, h8, h9, h10, h11, h12, h13, h14, h15, h16, h17, h18, h19, h20, h21, h22, h23, h24, h25, h26, h27, h28, h29, h30, h31, h32, h33, h34]

end Go.Proofs.YtmjneidcdeeafaaDoor.Pure
