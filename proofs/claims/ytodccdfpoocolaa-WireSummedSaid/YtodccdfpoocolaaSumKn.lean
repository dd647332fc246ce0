/- Walk of known, and of SumTells. -/
import Derived.Test.YtodccdfpoocolaaSumOf
import Derived.Lib.SlBytesConst
namespace Go.Proofs.Ytodccdfpoocolaa
open Go.ChangeShapes Go.WideShapes Go.ChangeAt Go.RowKit

def nine : List Nat := [49, 50, 51, 52, 53, 54, 55, 56, 57]
theorem nine_sum : crcAll [nine] = 3808858755 := by decide +kernel
theorem none_sum : crcAll [] = 0 := by decide +kernel

theorem rows_one {A : Option Addr} {n c : Nat} {xs : List Nat} (g : Nat) (w1 : World) (hw : RdB w1 A n xs) (hc : w1.cell? ⟨g, 0, none⟩ = some (.slice A n c)) : RdRows w1 (some ⟨g, 0, none⟩) 1 [xs] := by
  refine ⟨rfl, by omega, fun _ => ⟨g, 0, rfl, fun j hj => ?_⟩⟩
  obtain rfl : j = 0 := by omega
  have hl := hw.1
  subst hl
  exact ⟨A, c, hc, hw⟩
theorem RdB.below {w w1 : World} {A : Option Addr} {n : Nat} {xs : List Nat} (h : RdB w A n xs) (hb : Below w.heap.size w w1) : RdB w1 A n xs := by
  obtain ⟨h1, h2, h3, h4⟩ := h
  refine ⟨h1, h2, h3, fun hn => ?_⟩
  obtain ⟨b, off, e, hc⟩ := h4 hn
  refine ⟨b, off, e, fun j hj => ?_⟩
  have := hc j hj
  rw [← this]
  exact hb.cell (p := ⟨b, off + j, none⟩) (World.block_lt_of_cell? w _ this)

def nineCells : Array Value := #[.int .u8 49, .int .u8 50, .int .u8 51, .int .u8 52, .int .u8 53, .int .u8 54, .int .u8 55, .int .u8 56, .int .u8 57]
theorem nine_cell (w : World) (o : Obj) : ∀ j, j < 9 → ((w.alloc (.cells nineCells 5 (9, 10))).alloc o).cell? ⟨w.heap.size, j, none⟩ = some (.int .u8 ((nine.getD j 0 : Nat) : Int)) := by
  intro j hj
  rw [((Blk.new w nineCells 5 (9, 10)).alloc o).cell j]
  match j, hj with
  | 0, _ | 1, _ | 2, _ | 3, _ | 4, _ | 5, _ | 6, _ | 7, _ | 8, _ => rfl
theorem nine_reads (w : World) (g : Nat) (h : ∀ j, j < 9 → w.cell? ⟨g, j, none⟩ = some (.int .u8 ((nine.getD j 0 : Nat) : Int))) : RdB w (some ⟨g, 0, none⟩) 9 nine :=
  ⟨rfl, by omega, by decide, fun _ => ⟨g, 0, rfl, fun j hj => by rw [Nat.zero_add]; exact h j hj⟩⟩

end Go.Proofs.Ytodccdfpoocolaa
