/- Contracts: a rune's decoding, Letter, isWrong, Width. -/
import Derived.Test.YtmdnmiiggkfnfaaDoorGlRun
import Derived.Test.YtmdnmiiggkfnfaaDoorGlShelf
import Derived.Test.YtmdnmiiggkfnfaaDoorBase
import Derived.Lib.OthersKept
import Derived.BigQuiet
set_option linter.unusedVariables false
set_option linter.unusedSimpArgs false
namespace Go.Proofs.YtmdnmiiggkfnfaaDoor
open Go.RowKit

/-- The decoder's two tables lie as they must. -/
def Tabs (w : World) : Prop := Lib.Utf8Tabs 1 2 w
theorem Tabs.stay {w w1 : World} (h : Tabs w) (hb : Below w.heap.size w w1) : Tabs w1 := Utf8Tabs_below h hb
theorem byt_extract (s : ByteArray) (i : Nat) : byt (s.extract i s.size) = (byt s).drop i := by
  unfold byt
  rw [ByteArray.data_extract, Array.toList_extract]
  simp only [List.extract_eq_take_drop, List.map_take, List.map_drop]
  exact List.take_of_length_le (by rw [List.length_drop, List.length_map, Array.length_toList]; exact Nat.le_refl _)
theorem dec_calls (w : World) (hT : Tabs w) (s : ByteArray) (i : Nat) (hi : i < s.size) :
    Calls Tryd.prog 51 #[.string (s.extract i s.size)] w fun e w' => e = .returned (.tuple #[.int .i32 (decL ((byt s).drop i)).1, .int .i64 (decL ((byt s).drop i)).2]) ∧ Below w.heap.size w w' := by
  have h := Tryd.utf8_DecodeRuneInString (s.extract i s.size) w hT
  have hz : (s.extract i s.size).size ≠ 0 := by simp; omega
  have e : Lib.decodeGo (s.extract i s.size) = decL ((byt s).drop i) := by
    unfold Lib.decodeGo
    rw [if_neg hz, decL_at, byt_extract]
    rfl
  rw [e] at h
  exact h

def letB (r : Int) : Bool := decide ((97 ≤ r ∧ r ≤ 122) ∨ (65 ≤ r ∧ r ≤ 90) ∨ (192 ≤ r ∧ r ≤ 591 ∧ r ≠ 215 ∧ r ≠ 247))
theorem Letter_calls (r : Int) (w : World) : Calls Tryd.prog 91 #[.int .i32 r] w fun e w' => e = .returned (.bool (letB r)) ∧ w = w' := by
  go_enter Tryd.func91, Tryd.ntmps91
  go_wp2
  all_goals go_ret
  all_goals exact ⟨ret_bool (by unfold letB; rw [Bool.eq_iff_iff]; simp; omega), rfl⟩
theorem RefLetter_calls (r : Int) (w : World) : Calls Tryd.prog 36 #[.int .i32 r] w fun e w' => e = .returned (.bool (letB r)) ∧ w = w' := by
  go_enter Tryd.func36, Tryd.ntmps36
  go_wp2
  all_goals go_ret
  all_goals exact ⟨ret_bool (by unfold letB; rw [Bool.eq_iff_iff]; simp; omega), rfl⟩
/-- A byte of a text that is none of a rune. -/
theorem isWrong_calls (w : World) (hT : Tabs w) (s : ByteArray) (hs : s.size ≤ 140737488351232) (i : Nat) (hi : i < s.size) :
    Calls Tryd.prog 55 #[.string s, .int .i64 i] w fun e w' => e = .returned (.bool (badR (decL ((byt s).drop i)))) ∧ Below w.heap.size w w' := by
  have hd := dec_calls w hT s i hi
  generalize decL ((byt s).drop i) = x at *
  obtain ⟨r, n⟩ := x
  dsimp only at hd
  have hi' : (i : Int) ≤ (s.size : Int) := by omega
  have HD := Lib.hid hd
  clear hd
  by_cases h1 : r = 65533
  · by_cases h2 : n = 1
    · have e1 : ((r : Int) == 65533) = true := by simp; omega
      have e2 : ((n : Int) == 1) = true := by simp; omega
      have HB := Lib.hid (show badR (r, n) = true by unfold badR; simp; omega)
      clear h1 h2
      go_enter Tryd.func55, Tryd.ntmps55
      go_wp2_with fail
      refine HD.out.mono ?_
      rintro e w1 ⟨rfl, hb⟩
      go_wp2_with fail
      go_ret
      exact ⟨ret_bool (by rw [HB.out]), hb⟩
    · have e1 : ((r : Int) == 65533) = true := by simp; omega
      have e2 : ((n : Int) == 1) = false := by simp; omega
      have HB := Lib.hid (show badR (r, n) = false by unfold badR; simp; omega)
      clear h1 h2
      go_enter Tryd.func55, Tryd.ntmps55
      go_wp2_with fail
      refine HD.out.mono ?_
      rintro e w1 ⟨rfl, hb⟩
      go_wp2_with fail
      go_ret
      exact ⟨ret_bool (by rw [HB.out]), hb⟩
  · have e1 : ((r : Int) == 65533) = false := by simp; omega
    have HB := Lib.hid (show badR (r, n) = false by unfold badR; simp; omega)
    clear h1
    go_enter Tryd.func55, Tryd.ntmps55
    go_wp2_with fail
    refine HD.out.mono ?_
    rintro e w1 ⟨rfl, hb⟩
    go_wp2_with fail
    go_ret
    exact ⟨ret_bool (by rw [HB.out]), hb⟩

theorem below_iter {B : Nat} {w : World} (hB : B ≤ w.heap.size) (s : ByteArray) (p : Nat) : Below B w (w.iter s p) := (Below.refl B w).alloc hB _
end Go.Proofs.YtmdnmiiggkfnfaaDoor
