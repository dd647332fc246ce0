/- Texts put together for a claim. -/
import Derived.Test.YtmdnmiiggkfnfaaDoorQ13PlanNamesUpto
import Derived.Test.YtmdnmiiggkfnfaaDoorRows
import Derived.Outline
import Derived.Deep.LoopGhost
import Derived.BigRegion
import Derived.Deep.DeepCutAuto
/- Contracts of slices' functions at whole numbers and at Needs: IndexFunc, ContainsFunc, Index, Contains. -/
set_option linter.unusedVariables false
set_option linter.unusedSimpArgs false
namespace Go.Proofs.YtmdnmiiggkfnfaaDoor
open Go.RowKit

/-- A predicate that may make memory of its own, on a row's elements. -/
def PredOn {α : Type} (enc : α → Value) (xs : List α) (g : Nat) (lb : Array Value) (p : α → Bool) (w : World) : Prop :=
  ∀ (W : World) (x : α), x ∈ xs → Below w.heap.size w W → Calls Tryd.prog g (#[enc x] ++ lb) W fun e w' => e = .returned (.bool (p x)) ∧ Below w.heap.size w w'
/-- The place of the first that is, or -1. -/
def idxF {α : Type} (p : α → Bool) : List α → Int
  | [] => -1
  | x :: t => if p x then 0 else if idxF p t < 0 then -1 else idxF p t + 1
theorem idxF_neg {α : Type} (p : α → Bool) : ∀ xs : List α, -1 ≤ idxF p xs ∧ (idxF p xs < 0 ↔ xs.any p = false)
  | [] => by simp [idxF]
  | x :: t => by
    have ih := idxF_neg p t
    rw [idxF]
    by_cases h : p x = true
    · simp [h]
    · rw [if_neg h]
      by_cases h2 : idxF p t < 0
      · rw [if_pos h2]
        have := ih.2.1 h2
        simp [h, this]
      · rw [if_neg h2]
        have h3 : ¬ t.any p = false := fun e => h2 (ih.2.2 e)
        refine ⟨by omega, ⟨fun h4 => by omega, fun h4 => ?_⟩⟩
        rw [List.any_cons] at h4
        simp only [Bool.or_eq_false_iff] at h4
        exact absurd h4.2 h3
theorem idxF_le {α : Type} (p : α → Bool) : ∀ xs : List α, idxF p xs < xs.length
  | [] => by simp [idxF]
  | x :: t => by
    have ih := idxF_le p t
    rw [idxF, List.length_cons]
    split
    · omega
    · split <;> omega
theorem idxF_at {α : Type} {p : α → Bool} : ∀ {xs : List α} {k : Nat} {x : α}, xs[k]? = some x → p x = true → (∀ j y, j < k → xs[j]? = some y → p y = false) → idxF p xs = k
  | [], k, x, h, _, _ => by simp at h
  | y :: t, 0, x, h, hp, _ => by
    simp only [List.getElem?_cons_zero, Option.some.injEq] at h
    subst h
    rw [idxF, if_pos hp]
    rfl
  | y :: t, k + 1, x, h, hp, hn => by
    have h0 := hn 0 y (by omega) rfl
    have ih := idxF_at (xs := t) (k := k) (x := x) (by simpa using h) hp (fun j z hj hz => hn (j + 1) z (by omega) (by simpa using hz))
    rw [idxF, if_neg (by rw [h0]; decide), ih, if_neg (by omega)]
    omega
theorem idxF_none {α : Type} {p : α → Bool} {xs : List α} (h : ∀ j y, j < xs.length → xs[j]? = some y → p y = false) : idxF p xs = -1 := by
  have h1 := idxF_neg p xs
  have h2 : xs.any p = false := by
    rw [List.any_eq_false]
    intro x hx
    obtain ⟨j, hj⟩ := List.mem_iff_getElem?.1 hx
    rw [h j x (List.getElem?_eq_some_iff.1 hj).1 hj]
    decide
  have := h1.2.2 h2
  omega
theorem none_step {α : Type} {p : α → Bool} {xs : List α} {k : Nat} {x : α} (h : ∀ j y, j < k → xs[j]? = some y → p y = false) (hx : xs[k]? = some x) (hp : p x = false) : ∀ j y, j < k + 1 → xs[j]? = some y → p y = false := by
  intro j y hj hy
  rcases Nat.lt_or_ge j k with h' | h'
  · exact h j y h' hy
  · obtain rfl : j = k := by omega
    rw [hx] at hy
    injection hy with hy
    rw [← hy]
    exact hp

theorem any_idxI (p : Int → Bool) (xs : List Int) : decide (0 ≤ idxF p xs) = xs.any p := by
  have h := idxF_neg p xs
  rw [Bool.eq_iff_iff, decide_eq_true_eq]
  constructor
  · intro h1
    cases h2 : xs.any p with
    | true => rfl
    | false => have := h.2.2 h2; omega
  · intro h1
    rcases Int.lt_or_le (idxF p xs) 0 with h2 | h2
    · rw [h.2.1 h2] at h1; cases h1
    · exact h2
theorem any_idxN (p : Need → Bool) (xs : List Need) : decide (0 ≤ idxF p xs) = xs.any p := by
  have h := idxF_neg p xs
  rw [Bool.eq_iff_iff, decide_eq_true_eq]
  constructor
  · intro h1
    cases h2 : xs.any p with
    | true => rfl
    | false => have := h.2.2 h2; omega
  · intro h1
    rcases Int.lt_or_le (idxF p xs) 0 with h2 | h2
    · rw [h.2.1 h2] at h1; cases h1
    · exact h2
end Go.Proofs.YtmdnmiiggkfnfaaDoor

/- Contracts of slices.Index and slices.Contains at whole numbers and at Needs. -/
set_option linter.unusedVariables false
set_option linter.unusedSimpArgs false
namespace Go.Proofs.YtmdnmiiggkfnfaaDoor
open Go.RowKit

theorem any_idx {α : Type} (p : α → Bool) (xs : List α) : decide (0 ≤ idxF p xs) = xs.any p := by
  have h := idxF_neg p xs
  rw [Bool.eq_iff_iff, decide_eq_true_eq]
  constructor
  · intro h1
    cases h2 : xs.any p with
    | true => rfl
    | false => have := h.2.2 h2; omega
  · intro h1
    rcases Int.lt_or_le (idxF p xs) 0 with h2 | h2
    · rw [h.2.1 h2] at h1; cases h1
    · exact h2
end Go.Proofs.YtmdnmiiggkfnfaaDoor
