/- Contracts of slices.Index and slices.Contains at whole numbers and at Needs. -/
import Derived.Test.YtmdnmiiggkfnfaaDoorLyFn
set_option linter.unusedVariables false
set_option linter.unusedSimpArgs false
namespace Go.Proofs.YtmdnmiiggkfnfaaDoor
open Go.RowKit

theorem any_idx {α : Type} (p : α → Bool) (xs : List α) : decide (0 ≤ idxF p xs) = xs.any p := by
  have h := idxF_neg p xs
  rw [Bool.eq_iff_iff, decide_eq_true_eq]
  constructor
  · intro h1
    cases h2 : xs.any p with
    | true => rfl
    | false => have := h.2.2 h2; omega
  · intro h1
    rcases Int.lt_or_le (idxF p xs) 0 with h2 | h2
    · rw [h.2.1 h2] at h1; cases h1
    · exact h2
end Go.Proofs.YtmdnmiiggkfnfaaDoor
