/- Arguments of the wire laws. -/
import Derived.Test.YtodccdfpoocolaaCrKd
import Derived.Test.YtodccdfpoocolaaWrRt
set_option linter.unusedVariables false
namespace Go.Proofs.Ytodccdfpoocolaa
open Go.ChangeShapes Go.WideShapes Go.ChangeAt Go.RowKit

theorem kI_enc (w : World) (x : Int) (cs : List Value) (h : (Kd.int .i64).K w x cs) : cs = flI.enc x := h.1
theorem kS_enc (w : World) (x : ByteArray) (cs : List Value) (h : Kd.str.K w x cs) : cs = flS.enc x := h.1
theorem opens_ints : Opens Try.prog 49 (Kd.slice (Kd.int .i64)) :=
  opens_slice Try.underlying49 (by kernel_rfl) (by decide) (of_decide_eq_true (by kernel_rfl)) (opens_int Try.underlying3 (by kernel_rfl))
theorem opens_strs : Opens Try.prog 56 (Kd.slice Kd.str) :=
  opens_slice Try.underlying56 (by kernel_rfl) (by decide) (of_decide_eq_true (by kernel_rfl)) (opens_str Try.underlying9 (by kernel_rfl))
theorem opens_bytes : Opens Try.prog 25 (Kd.slice (Kd.int .u8)) :=
  opens_slice Try.underlying25 (by kernel_rfl) (by decide) (of_decide_eq_true (by kernel_rfl)) (opens_int Try.underlying5 (by kernel_rfl))
end Go.Proofs.Ytodccdfpoocolaa
