/- Texts put together for a claim. -/
import Derived.Test.YtmdggodkkkihhaaDoorGlRun
import Derived.Test.YtmdggodkkkihhaaDoorGlShelf
import Derived.Test.YtmdggodkkkihhaaDoorBase
import Derived.Lib.OthersKept
import Derived.BigQuiet
/- Contracts: a rune's decoding, Letter, isWrong, Width. -/
set_option linter.unusedVariables false
set_option linter.unusedSimpArgs false
namespace Go.Proofs.YtmdggodkkkihhaaDoor
open Go.RowKit

/-- The decoder's two tables lie as they must. -/
def Tabs (w : World) : Prop := Lib.Utf8Tabs 0 1 w
theorem Tabs.stay {w w1 : World} (h : Tabs w) (hb : Below w.heap.size w w1) : Tabs w1 := Utf8Tabs_below h hb
theorem byt_extract (s : ByteArray) (i : Nat) : byt (s.extract i s.size) = (byt s).drop i := by
  unfold byt
  rw [ByteArray.data_extract, Array.toList_extract]
  simp only [List.extract_eq_take_drop, List.map_take, List.map_drop]
  exact List.take_of_length_le (by rw [List.length_drop, List.length_map, Array.length_toList]; exact Nat.le_refl _)
theorem dec_calls (w : World) (hT : Tabs w) (s : ByteArray) (i : Nat) (hi : i < s.size) :
    Calls Tryd.prog 73 #[.string (s.extract i s.size)] w fun e w' => e = .returned (.tuple #[.int .i32 (decL ((byt s).drop i)).1, .int .i64 (decL ((byt s).drop i)).2]) ∧ Below w.heap.size w w' := by
  have h := Tryd.utf8_DecodeRuneInString (s.extract i s.size) w hT
  have hz : (s.extract i s.size).size ≠ 0 := by simp; omega
  have e : Lib.decodeGo (s.extract i s.size) = decL ((byt s).drop i) := by
    unfold Lib.decodeGo
    rw [if_neg hz, decL_at, byt_extract]
    rfl
  rw [e] at h
  exact h

def letB (r : Int) : Bool := decide ((97 ≤ r ∧ r ≤ 122) ∨ (65 ≤ r ∧ r ≤ 90) ∨ (192 ≤ r ∧ r ≤ 591 ∧ r ≠ 215 ∧ r ≠ 247))
theorem RefLetter_calls (r : Int) (w : World) : Calls Tryd.prog 69 #[.int .i32 r] w fun e w' => e = .returned (.bool (letB r)) ∧ w = w' := by
  go_enter Tryd.func69, Tryd.ntmps69
  go_wp2
  all_goals go_ret
  all_goals exact ⟨ret_bool (by unfold letB; rw [Bool.eq_iff_iff]; simp; omega), rfl⟩
theorem below_iter {B : Nat} {w : World} (hB : B ≤ w.heap.size) (s : ByteArray) (p : Nat) : Below B w (w.iter s p) := (Below.refl B w).alloc hB _
end Go.Proofs.YtmdggodkkkihhaaDoor

/- Contracts: IsName, the program's. -/
set_option linter.unusedVariables false
set_option linter.unusedSimpArgs false
namespace Go.Proofs.YtmdggodkkkihhaaDoor
open Go.RowKit

def digB (r : Int) : Bool := decide (48 ≤ r ∧ r ≤ 57)
/-- Are runes those of a name, as far as each goes? -/
def okN : Bool → List (Nat × Nat) → Bool
  | _, [] => true
  | first, x :: t => !badR x && (letB x.1 || (!first && digB x.1)) && okN false t
def nameR (l : List (Nat × Nat)) : Bool := okN true l && decide (1 ≤ l.length ∧ l.length ≤ 8)
def nameL (l : List Nat) : Bool := nameR (rn l)

theorem okN_bad {f : Bool} {x : Nat × Nat} {t : List (Nat × Nat)} (h : badR x = true) : okN f (x :: t) = false := by
  rw [okN, h]; rfl
theorem okN_let {f : Bool} {x : Nat × Nat} {t : List (Nat × Nat)} (h : badR x = false) (hl : letB x.1 = true) : okN f (x :: t) = okN false t := by
  rw [okN, h, hl]; rfl
theorem okN_dig {x : Nat × Nat} {t : List (Nat × Nat)} (h : badR x = false) (hd : digB x.1 = true) : okN false (x :: t) = okN false t := by
  rw [okN, h, hd]; simp
theorem okN_no {f : Bool} {x : Nat × Nat} {t : List (Nat × Nat)} (hl : letB x.1 = false) (hd : f = true ∨ digB x.1 = false) : okN f (x :: t) = false := by
  rw [okN, hl]
  rcases hd with rfl | hd
  · simp
  · rw [hd]; simp

end Go.Proofs.YtmdggodkkkihhaaDoor
