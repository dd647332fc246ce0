/- Words about memory that every walk of this seat uses: plain lemmas, no program in sight. -/
import Derived.WalkKit
import Derived.ProofKit
import Derived.Lib.Hide
import Derived.Below
import Derived.Laws.OwnMore
import Derived.Laws.BitsAllLaws
import Derived.Deep.Draws
set_option linter.unusedVariables false
set_option linter.unusedSimpArgs false
namespace Go.Proofs.YtmdnmiiggkfnfaaDoor
open Go.RowKit

theorem ret_int {k : IntKind} {a b : Int} (h : a = b) : Ending.returned (.int k a) = .returned (.int k b) := by rw [h]
theorem ret_bool {a b : Bool} (h : a = b) : Ending.returned (.bool a) = .returned (.bool b) := by rw [h]
theorem ret_val {a b : Value} (h : a = b) : Ending.returned a = .returned b := by rw [h]

/-- Block g is just the cells cs, of type t, with the mark fr. -/
def Blk (w : World) (g : Nat) (cs : Array Value) (t : TypeId) (fr : Nat × Nat) : Prop := w.heap[g]? = some (.cells cs t fr)
theorem Blk.lt {w : World} {g : Nat} {cs : Array Value} {t : TypeId} {fr : Nat × Nat} (h : Blk w g cs t fr) : g < w.heap.size := (Array.getElem?_eq_some_iff.1 h).1
theorem Blk.cell {w : World} {g : Nat} {cs : Array Value} {t : TypeId} {fr : Nat × Nat} (h : Blk w g cs t fr) (j : Nat) : w.cell? ⟨g, j, none⟩ = cs[j]? := by
  unfold Blk at h
  simp [World.cell?, h]
theorem Blk.free {w : World} {g : Nat} {cs : Array Value} {t : TypeId} (h : Blk w g cs t (0, 0)) (j : Nat) : w.frozen? ⟨g, j, none⟩ = false := by
  unfold Blk at h
  simp [World.frozen?, h]
theorem Blk.new (w : World) (cs : Array Value) (t : TypeId) (fr : Nat × Nat) : Blk (w.alloc (.cells cs t fr)) w.heap.size cs t fr := by
  unfold Blk
  show (w.heap.push _)[w.heap.size]? = _
  simp
theorem Blk.at_ {w : World} {g : Nat} (hg : g = w.heap.size) (cs : Array Value) (t : TypeId) (fr : Nat × Nat) : Blk (w.alloc (.cells cs t fr)) g cs t fr := by
  subst hg
  exact Blk.new w cs t fr
theorem Blk.alloc {w : World} {g : Nat} {cs : Array Value} {t : TypeId} {fr : Nat × Nat} (h : Blk w g cs t fr) (o : Obj) : Blk (w.alloc o) g cs t fr := (Below.heap_alloc w o g h.lt).trans h
theorem Blk.drew {w : World} {g : Nat} {cs : Array Value} {t : TypeId} {fr : Nat × Nat} (h : Blk w g cs t fr) : Blk w.drew g cs t fr := h
theorem Blk.drewN {w : World} {g : Nat} {cs : Array Value} {t : TypeId} {fr : Nat × Nat} (h : Blk w g cs t fr) (n : Nat) : Blk (w.drewN n) g cs t fr := h
theorem Blk.below {w w1 : World} {B g : Nat} {cs : Array Value} {t : TypeId} {fr : Nat × Nat} (h : Blk w g cs t fr) (hb : Below B w w1) (hg : g < B) : Blk w1 g cs t fr := (hb.block g hg).trans h
theorem Blk.far {w : World} {g : Nat} {cs : Array Value} {t : TypeId} {fr : Nat × Nat} (h : Blk w g cs t fr) {p : Addr} (hp : g ≠ p.block) (u : Value) : Blk (w.setCell p u) g cs t fr := (Below.heap_setCell w p u g hp).trans h
theorem Blk.put {w : World} {g : Nat} {cs : Array Value} {t : TypeId} {fr : Nat × Nat} (h : Blk w g cs t fr) (i : Nat) (u : Value) : Blk (w.setCell ⟨g, i, none⟩ u) g (cs.setIfInBounds i u) t fr := by
  unfold Blk at h ⊢
  simp [World.setCell, Array.getElem?_modify, h]

/-- The one cell of a new block; g is its number in whatever spelling. -/
theorem cell_new {W : World} {g : Nat} (hg : g = W.heap.size) (v : Value) (t : TypeId) : (W.alloc (.cells #[v] t)).cell? ⟨g, 0, none⟩ = some v := by
  subst hg
  exact (Blk.new W #[v] t (0, 0)).cell 0
theorem size_put (w : World) (p : Addr) (u : Value) : (w.setCell p u).heap.size = w.heap.size := by simp [World.setCell]
theorem size_new (w : World) (o : Obj) : (w.alloc o).heap.size = w.heap.size + 1 := by simp

/-- What lies below block number B stays, and marks too. -/
theorem cell_lt {w : World} {p : Addr} {v : Value} (h : w.cell? p = some v) : p.block < w.heap.size := World.block_lt_of_cell? w _ h
theorem cell_keep {w w1 : World} {B : Nat} (hb : Below B w w1) {p : Addr} {v : Value} (hp : p.block < B) (h : w.cell? p = some v) : w1.cell? p = some v := (hb.cell hp).trans h
theorem cell_stay {w w1 : World} (hb : Below w.heap.size w w1) {p : Addr} {v : Value} (h : w.cell? p = some v) : w1.cell? p = some v := (hb.cell (cell_lt h)).trans h
theorem below_new (w : World) (o : Obj) : Below w.heap.size w (w.alloc o) := (Below.refl _ _).alloc (Nat.le_refl _) o
theorem below_more {w w1 w2 : World} (h : Below w.heap.size w w1) (k : Below w1.heap.size w1 w2) : Below w.heap.size w w2 := h.trans (k.mono h.size)
theorem below_drawn {B : Nat} {a w : World} (h : Below B a w) (n : Nat) : Below B a (w.drewN n) := ⟨h.os, h.tape, h.output, h.size, h.block⟩
end Go.Proofs.YtmdnmiiggkfnfaaDoor
