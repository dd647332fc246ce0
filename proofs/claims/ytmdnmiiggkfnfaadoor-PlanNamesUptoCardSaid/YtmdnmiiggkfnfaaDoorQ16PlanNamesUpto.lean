/- Texts put together for a claim. -/
import Derived.Test.YtmdnmiiggkfnfaaDoorQ15PlanNamesUpto
import Derived.StillTailTactics
/- Contract of table.Needs. -/
set_option linter.unusedVariables false
set_option linter.unusedSimpArgs false
namespace Go.Proofs.YtmdnmiiggkfnfaaDoor
open Go.RowKit

/-- A row of the call's own is a slice that holds it. -/
theorem sl_ow {α : Type} {f : Fl α} {w : World} {base : Nat} {e : TypeId} {v : Value} {xs : List α} (h : Ow f w base e v xs) (hs : 0 < f.sz) (hn : xs.length ≤ 140737488351232) : ∃ A c, v = .slice A xs.length c ∧ Sl f w A xs.length c xs := by
  obtain ⟨A, c, rfl, hr⟩ := h.read hs
  rcases h.2 with ⟨e1, h0⟩ | ⟨g, cap, cur, e1, _, _, h1, h2, _⟩
  · injection e1 with e1 e2 e3
    subst e3
    exact ⟨A, 0, rfl, hr, by omega, by omega, hn⟩
  · injection e1 with e1 e2 e3
    subst e3
    exact ⟨A, c, rfl, hr, h1, by simp only [maxLen] at h2; omega, hn⟩
/-- What a row of Needs that is returned is. -/
def NeedsPost (w : World) (xs : List Need) (e : Ending) (w' : World) : Prop := ∃ A n c, e = .returned (.slice A n c) ∧ Sl flN w' A n c xs ∧ Below w.heap.size w w'
end Go.Proofs.YtmdnmiiggkfnfaaDoor
