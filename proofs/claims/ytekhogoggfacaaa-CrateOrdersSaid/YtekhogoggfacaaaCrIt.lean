/- A Crate's items, and the document's Things. -/
import Derived.Test.YtekhogoggfacaaaRcDef
set_option linter.unusedVariables false
namespace Go.Proofs.Ytekhogoggfacaaa
open Go.RowKit

/-- A Thing with its kind's field alone. -/
def plainT (t : Th) : Th := if t.k = 1 then ⟨1, t.n, .empty, false⟩ else if t.k = 2 then ⟨2, 0, t.s, false⟩ else ⟨3, 0, .empty, t.b⟩
def itOf (t : Th) : It := if t.k = 1 then .num t.n else if t.k = 2 then .txt t.s else .tru t.b
theorem itOf_plain (t : Th) : itOf (plainT t) = itOf t := by
  unfold itOf plainT
  by_cases h1 : t.k = 1
  · simp [h1]
  · by_cases h2 : t.k = 2 <;> simp [h1, h2]
theorem tells_facts (ts : List Th) (i : Int) (hk : ∀ t ∈ ts, t.k = 1 ∨ t.k = 2 ∨ t.k = 3) :
    (∃ y, rcAt ts i 1 = (y, (numOf (lk (ts.map itOf) i)).2) ∧ y.n = (numOf (lk (ts.map itOf) i)).1) ∧
    (∃ y, rcAt ts i 2 = (y, (txtOf (lk (ts.map itOf) i)).2) ∧ y.s = (txtOf (lk (ts.map itOf) i)).1) ∧
    (∃ y, rcAt ts i 3 = (y, (truOf (lk (ts.map itOf) i)).2) ∧ y.b = (truOf (lk (ts.map itOf) i)).1) := by
  have e : lk (ts.map itOf) i = (if 0 ≤ i then ts[i.toNat]? else none).map itOf := by
    unfold lk
    split <;> simp
  unfold rcAt
  rw [e]
  rcases h : (if 0 ≤ i then ts[i.toNat]? else none) with _ | t
  · simp [numOf, txtOf, truOf, Th.zero]
  · have hm : t ∈ ts := by
      split at h
      · exact List.mem_of_getElem? h
      · cases h
    rcases hk t hm with h1 | h1 | h1 <;> simp [itOf, numOf, txtOf, truOf, Th.zero, h1]
theorem rc_head {w : World} {B b : Nat} {v : Value} {ts : List Th} (h : Rc w B b v ts) : ∃ A c, v = .slice A ts.length c ∧ w.cell? ⟨b, 0, none⟩ = some (.slice A ts.length c) ∧ ts.length ≤ 9223372036854775807 := by
  obtain ⟨A, c, hv, _⟩ := h.own.read (by decide)
  refine ⟨A, c, hv, ?_, h.own.room (by decide)⟩
  have := h.blk.cell 0
  rw [hv] at this
  exact this
theorem same_later {P : Program} {f : FuncId} {args : Array Value} {w : World} {v : Value} (q : Later w) (h : Calls P f args q.w1 fun e w' => e = .returned v ∧ q.w1 = w') :
    Calls P f args q.w1 fun e w' => e = .returned v ∧ ∃ p : Later w, w' = p.w1 :=
  later_call q (h.mono fun e w' ⟨he, hb⟩ => ⟨he, by rw [← hb]; exact Below.refl _ _⟩)
def kTh : Kd Th := Kd.iso (Kd.pair (Kd.int .i64) (Kd.pair (Kd.int .i64) (Kd.pair Kd.str (Kd.pair Kd.bool Kd.unit)))) fun t => (t.k, t.n, t.s, t.b, ())
/-- A Thing is one of the three kinds. -/
def Knd (ts : List Th) : Prop := ∀ t ∈ ts, t.k = 1 ∨ t.k = 2 ∨ t.k = 3
end Go.Proofs.Ytekhogoggfacaaa
