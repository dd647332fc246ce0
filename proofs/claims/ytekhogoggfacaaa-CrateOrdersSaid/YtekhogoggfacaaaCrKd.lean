/- The kinds of the laws' data. -/
import Derived.Test.YtekhogoggfacaaaCrIt
set_option linter.unusedVariables false
namespace Go.Proofs.Ytekhogoggfacaaa
open Go.RowKit

theorem kTh_enc (w : World) (x : Th) (cs : List Value) (h : kTh.K w x cs) : cs = flTh.enc x := by
  obtain ⟨_, _, rfl, ⟨rfl, _⟩, _, _, rfl, ⟨rfl, _⟩, _, _, rfl, ⟨rfl, _⟩, _, _, rfl, rfl, rfl⟩ := h
  rfl
theorem opens_th : Opens Try.prog 31 kTh :=
  opens_iso _ (fun a => ⟨a.1, a.2.1, a.2.2.1, a.2.2.2.1⟩) (fun _ => rfl) (opens_struct Try.underlying31 (by kernel_rfl)
    (opensF_cons rfl (opens_int Try.underlying3 (by kernel_rfl)) (opensF_cons rfl (opens_int Try.underlying3 (by kernel_rfl)) (opensF_cons rfl (opens_str Try.underlying9 (by kernel_rfl)) (opensF_cons rfl (opens_bool Try.underlying4 (by kernel_rfl)) opensF_nil)))))
theorem opens_ths : Opens Try.prog 22 (Kd.slice kTh) :=
  opens_slice Try.underlying22 (by kernel_rfl) (by decide) (of_decide_eq_true (by kernel_rfl)) opens_th
end Go.Proofs.Ytekhogoggfacaaa
