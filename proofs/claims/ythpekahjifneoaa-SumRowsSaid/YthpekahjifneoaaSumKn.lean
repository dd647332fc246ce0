/- Walk of known, and of SumTells. -/
import Derived.Test.YthpekahjifneoaaSumOf
import Derived.Lib.SlBytesConst
namespace Go.Proofs.Ythpekahjifneoaa
open Go.ChangeShapes Go.WideShapes Go.ChangeAt Go.RowKit

def nine : List Nat := [49, 50, 51, 52, 53, 54, 55, 56, 57]
theorem nine_sum : crcAll [nine] = 3808858755 := by decide +kernel
theorem none_sum : crcAll [] = 0 := by decide +kernel

theorem rows_one {A : Option Addr} {n c : Nat} {xs : List Nat} (g : Nat) (w1 : World) (hw : RdB w1 A n xs) (hc : w1.cell? ⟨g, 0, none⟩ = some (.slice A n c)) : RdRows w1 (some ⟨g, 0, none⟩) 1 [xs] := by
  refine ⟨rfl, by omega, fun _ => ⟨g, 0, rfl, fun j hj => ?_⟩⟩
  obtain rfl : j = 0 := by omega
  have hl := hw.1
  subst hl
  exact ⟨A, c, hc, hw⟩
theorem RdB.below {w w1 : World} {A : Option Addr} {n : Nat} {xs : List Nat} (h : RdB w A n xs) (hb : Below w.heap.size w w1) : RdB w1 A n xs := by
  obtain ⟨h1, h2, h3, h4⟩ := h
  refine ⟨h1, h2, h3, fun hn => ?_⟩
  obtain ⟨b, off, e, hc⟩ := h4 hn
  refine ⟨b, off, e, fun j hj => ?_⟩
  have := hc j hj
  rw [← this]
  exact hb.cell (p := ⟨b, off + j, none⟩) (World.block_lt_of_cell? w _ this)

def nineCells : Array Value := #[.int .u8 49, .int .u8 50, .int .u8 51, .int .u8 52, .int .u8 53, .int .u8 54, .int .u8 55, .int .u8 56, .int .u8 57]
theorem nine_cell (w : World) (o : Obj) : ∀ j, j < 9 → ((w.alloc (.cells nineCells 5 (9, 10))).alloc o).cell? ⟨w.heap.size, j, none⟩ = some (.int .u8 ((nine.getD j 0 : Nat) : Int)) := by
  intro j hj
  rw [((Blk.new w nineCells 5 (9, 10)).alloc o).cell j]
  match j, hj with
  | 0, _ | 1, _ | 2, _ | 3, _ | 4, _ | 5, _ | 6, _ | 7, _ | 8, _ => rfl
theorem nine_reads (w : World) (g : Nat) (h : ∀ j, j < 9 → w.cell? ⟨g, j, none⟩ = some (.int .u8 ((nine.getD j 0 : Nat) : Int))) : RdB w (some ⟨g, 0, none⟩) 9 nine :=
  ⟨rfl, by omega, by decide, fun _ => ⟨g, 0, rfl, fun j hj => by rw [Nat.zero_add]; exact h j hj⟩⟩

set_option maxHeartbeats 400000 in
theorem known_calls (w : World) :
    Calls Try.prog 10 #[] w fun e w' => e = .returned (.bool true) ∧ Below w.heap.size w w' := by
  have kc := fun (w : World) (C : Array Value) (n c : Nat) => Lib.run_convert_bytes_const (P := Try.prog) w 22 5 C n c Try.underlying22 Try.underlying5
  go_enter Try.func10, Try.ntmps10
  go_wp2_with fail
  refine (Of_calls _ _ _ [nine] _ (rows_one (c := 9) _ _ (nine_reads _ _ (nine_cell w _)) (by simp))).mono ?_
  rintro e w' ⟨rfl, rfl⟩
  rw [nine_sum]
  go_wp2_with fail
  refine (Of_calls none 0 0 [] _ ⟨rfl, by omega, fun h => absurd h (by omega)⟩).mono ?_
  rintro e w' ⟨rfl, rfl⟩
  rw [none_sum]
  go_wp2_with fail
  go_ret
  exact ⟨rfl, ((Below.refl _ _).alloc (Nat.le_refl _) _).alloc (by simp) _⟩
set_option maxHeartbeats 400000 in
theorem tells_calls (A : Option Addr) (n c : Nat) (xs : List Nat) (w : World) (h : RdB w A n xs) :
    Calls Try.prog 3 #[.slice A n c] w fun e w' => e = .returned (.bool true) ∧ Below w.heap.size w w' := by
  by_cases h0 : n ≤ 3000
  · go_enter Try.func3, Try.ntmps3
    go_wp2_with fail
    refine (Of_calls _ _ _ [xs] _ (rows_one (c := c) _ _ (h.below ((Below.refl _ _).alloc (Nat.le_refl _) _)) (by simp))).mono ?_
    rintro e w' ⟨rfl, rfl⟩
    go_wp2_with fail
    refine (Ref_calls _ _ _ xs _ (h.below ((Below.refl _ _).alloc (Nat.le_refl _) _))).mono ?_
    rintro e w' ⟨rfl, rfl⟩
    go_wp2_with fail
    refine (known_calls _).mono ?_
    rintro e w' ⟨rfl, hb⟩
    go_wp2_with fail
    go_ret
    exact ⟨rfl, ((Below.refl _ _).alloc (Nat.le_refl _) _).trans (hb.mono (by simp))⟩
  · go_enter Try.func3, Try.ntmps3
    go_wp2
    go_ret
    exact ⟨rfl, Below.refl _ _⟩
end Go.Proofs.Ythpekahjifneoaa
