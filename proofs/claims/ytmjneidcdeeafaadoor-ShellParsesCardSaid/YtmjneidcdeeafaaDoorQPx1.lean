-- LAID BY myprint.sh (a print with contracts of one's own beside it). Not trusted: Lean checks it.
import Derived.Test.YtmjneidcdeeafaaDoorQPx0
namespace Go.Proofs.YtmjneidcdeeafaaDoor.QP
open Go.RowKit Go.Proofs.YtmjneidcdeeafaaDoorW.PrintWords Go.Proofs.YtmjneidcdeeafaaDoorW.PrintLast Go.Proofs.YtmjneidcdeeafaaDoorW.PrintMore
attribute [local go_sem] max2_int min2_int max_two min_two max_three min_three max_four min_four   -- for this text's walks alone
set_option linter.unusedVariables false
set_option linter.unusedSimpArgs false

/-! ### strings_Cut: function 10 -/
def strings_Cut.f (a0 : ByteArray) (a1 : ByteArray) : Option (ByteArray × ByteArray × Bool) := Go.Proofs.YtmjneidcdeeafaaDoor.Ext.cutF a0 a1
theorem strings_Cut.calls (a0 : ByteArray) (a1 : ByteArray) (r1 : ByteArray) (r2 : ByteArray) (r3 : Bool) (w : World) (h : strings_Cut.f a0 a1 = some (r1, r2, r3)) :
    Calls Tryd.prog 10 #[.string a0, .string a1] w fun e w' => e = .returned (.tuple #[.string r1, .string r2, .bool r3]) ∧ Drawn0 w w' := Go.Proofs.YtmjneidcdeeafaaDoor.Ext.cut_calls a0 a1 r1 r2 r3 w h

/-! ### strings_FieldsFunc: function 15 -/
def strings_FieldsFunc.f (a0 : ByteArray) : Option (List ByteArray) := Go.Proofs.YtmjneidcdeeafaaDoor.Ext.fieldsF a0
theorem strings_FieldsFunc.calls (a0 : ByteArray) (r : List ByteArray) (w : World) (h : strings_FieldsFunc.f a0 = some r) :
    Calls Tryd.prog 15 #[.string a0, .func (.func 16) #[] #[]] w fun e w' => ∃ v0_ : Value, e = .returned (v0_) ∧ Kd.R Kd.string 9 w' w.heap.size (fun _ => True) v0_ r ∧ Below w.heap.size w w' := Go.Proofs.YtmjneidcdeeafaaDoor.Ext.fields_calls a0 r w h

end Go.Proofs.YtmjneidcdeeafaaDoor.QP
