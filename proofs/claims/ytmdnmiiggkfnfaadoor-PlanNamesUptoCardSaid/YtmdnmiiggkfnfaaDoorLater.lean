/- Regions of open order whose operations read, and whose callees make memory of their own alone: one walk in the text's order, over whatever later world. -/
import Derived.Test.YtmdnmiiggkfnfaaDoorBase
import Derived.BigQuiet
set_option linter.unusedVariables false
set_option linter.unusedSimpArgs false
namespace Go.Proofs.YtmdnmiiggkfnfaaDoor
open Go.RowKit

/-- A later world: what was there is there. -/
structure Later (w : World) where
  w1 : World
  hb : Below w.heap.size w w1
instance (w : World) : Nonempty (Later w) := ⟨⟨w, Below.refl _ _⟩⟩
theorem wp_region_later {P : Program} {id : Nat} {Q : Exit → Act → World → Prop} {a : Act} {w : World} {l : List Oper} (hm : P.follows .mixedOrders = true) (hB : Region.lexB .any l.toArray = true)
    (h : wpQuiet P l.toArray (fun w' => ∃ p : Later w, w' = p.w1) (fun a' => ∀ p : Later w, Q .normal a' p.w1) l a) : (Code.region id l.toArray true).wp P Q a w := by
  refine wp_region_quiet (C := fun w' => ∃ p : Later w, w' = p.w1) hm hB ⟨⟨{ w with drawn := w.drawn + 1 }, ⟨rfl, rfl, rfl, Nat.le_refl _, fun _ _ => rfl⟩⟩, rfl⟩ ?_
  have e : (fun a' => ∀ w', (∃ p : Later w, w' = p.w1) → Q .normal a' w') = (fun a' => ∀ p : Later w, Q .normal a' p.w1) := by
    funext a'
    exact propext ⟨fun h p => h _ ⟨p, rfl⟩, fun h w' ⟨p, e⟩ => by rw [e]; exact h p⟩
  rw [e]
  simpa using h
/-- A cell, in whatever later world. -/
theorem later_cell {w : World} {p : Addr} {v : Value} (h : w.cell? p = some v) : ∀ q : Later w, q.w1.cell? p = some v := fun q => cell_stay q.hb h
theorem later_call {P : Program} {f : FuncId} {args : Array Value} {w : World} {v : Value} (q : Later w) (h : Calls P f args q.w1 fun e w' => e = .returned v ∧ Below q.w1.heap.size q.w1 w') :
    Calls P f args q.w1 fun e w' => e = .returned v ∧ ∃ p : Later w, w' = p.w1 :=
  h.mono fun e w' ⟨he, hb⟩ => ⟨he, ⟨w', below_more q.hb hb⟩, rfl⟩
end Go.Proofs.YtmdnmiiggkfnfaaDoor
