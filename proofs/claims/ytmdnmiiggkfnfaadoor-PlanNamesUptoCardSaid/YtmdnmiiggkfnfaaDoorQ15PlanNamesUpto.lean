/- Texts put together for a claim. -/
import Derived.Test.YtmdnmiiggkfnfaaDoorQ14PlanNamesUpto
import Derived.Lib.AppendZeros
import Derived.BigQuiet
import Derived.Deep.QuietTactic
/- Contracts of slices.Index, Contains, Grow and Concat at Needs. -/
set_option linter.unusedVariables false
set_option linter.unusedSimpArgs false
namespace Go.Proofs.YtmdnmiiggkfnfaaDoor
open Go.RowKit

theorem eqv_need (x y : Need) : Eqv Tryd.prog 2 46 (.agg #[.int .i64 x.p, .bool x.r]) (.agg #[.int .i64 y.p, .bool y.r]) (decide (x = y)) := by
  have h := eqv_struct (P := Tryd.prog) (t := 46) (xs := #[.int .i64 x.p, .bool x.r]) (ys := #[.int .i64 y.p, .bool y.r]) Tryd.underlying46 (by kernel_rfl)
    (eqf_cons (by decide) (fun _ => by kernel_rfl) (fun _ => by kernel_rfl) (eqv_int (q' := .i64) Tryd.underlying3 x.p y.p) (eqf_cons (by decide) (fun _ => by kernel_rfl) (fun _ => by kernel_rfl) (eqv_bool Tryd.underlying4 x.r y.r) eqf_nil))
  have e : (x.p == y.p && (x.r == y.r && true)) = decide (x = y) := by
    obtain ⟨a, b⟩ := x
    obtain ⟨c, d⟩ := y
    rw [Bool.eq_iff_iff]
    simp
  rw [e] at h
  exact h
theorem info_need : (Tryd.prog.info? 46).map (fun i => (i.zero, i.size, i.bytes)) = some (some (.agg #[.int .i64 0, .bool false]), 2, 16) := by kernel_rfl
theorem zeros_row (w : World) (n : Nat) (hn : n ≤ 17592186044416) (e : TypeId) : Ow flN (w.drew.alloc (.cells (Builtin.zeroCells (Value.agg #[.int .i64 0, .bool false]).cells n ++ Builtin.zeroCells (Value.agg #[.int .i64 0, .bool false]).cells (grownCap w n 0 e - n)) e)) w.heap.size e (.slice (some ⟨w.heap.size, 0, none⟩) 0 (grownCap w n 0 e)) [] := by
  have h1 := grownCap_ge w n 0 e
  have h2 := grownCap_le_maxLen w n 0 e (by simp only [maxLen]; omega)
  refine ⟨rfl, .inr ⟨w.heap.size, _, _, rfl, Nat.le_refl _, heap_alloc_new w.drew _, Nat.zero_le _, h2, ?_, by simp⟩⟩
  simp only [Array.size_append, size_zeroCells, flN]
  have h3 : (Value.agg #[.int .i64 0, .bool false]).cells.size = 2 := rfl
  rw [h3, ← Nat.add_mul]
  congr 1
  omega
end Go.Proofs.YtmdnmiiggkfnfaaDoor

/- Contracts of slices.Concat of two rows of Needs, and of table.Needs. -/
set_option linter.unusedVariables false
set_option linter.unusedSimpArgs false
namespace Go.Proofs.YtmdnmiiggkfnfaaDoor
open Go.RowKit

end Go.Proofs.YtmdnmiiggkfnfaaDoor
