/- Contracts: a rune's decoding, Letter, isWrong, Width. -/
import Derived.Test.YtjjcibbokeadiaaDoorGlRun
import Derived.Test.YtjjcibbokeadiaaDoorGlShelf
import Derived.Test.YtjjcibbokeadiaaDoorBase
import Derived.Lib.OthersKept
import Derived.BigQuiet
set_option linter.unusedVariables false
namespace Go.Proofs.YtjjcibbokeadiaaDoor
open Go.RowKit

/-- The decoder's two tables lie as they must. -/
def Tabs (w : World) : Prop := Lib.Utf8Tabs 0 1 w
theorem Tabs.stay {w w1 : World} (h : Tabs w) (hb : Below w.heap.size w w1) : Tabs w1 := Utf8Tabs_below h hb
theorem byt_extract (s : ByteArray) (i : Nat) : byt (s.extract i s.size) = (byt s).drop i := by
  unfold byt
  rw [ByteArray.data_extract, Array.toList_extract]
  simp only [List.extract_eq_take_drop, List.map_take, List.map_drop]
  exact List.take_of_length_le (by rw [List.length_drop, List.length_map, Array.length_toList]; exact Nat.le_refl _)
theorem dec_calls (w : World) (hT : Tabs w) (s : ByteArray) (i : Nat) (hi : i < s.size) :
    Calls Tryd.prog 27 #[.string (s.extract i s.size)] w fun e w' => e = .returned (.tuple #[.int .i32 (decL ((byt s).drop i)).1, .int .i64 (decL ((byt s).drop i)).2]) ∧ Below w.heap.size w w' := by
  have h := Tryd.utf8_DecodeRuneInString (s.extract i s.size) w hT
  have hz : (s.extract i s.size).size ≠ 0 := by simp; omega
  have e : Lib.decodeGo (s.extract i s.size) = decL ((byt s).drop i) := by
    unfold Lib.decodeGo
    rw [if_neg hz, decL_at, byt_extract]
    rfl
  rw [e] at h
  exact h

def letB (r : Int) : Bool := decide ((97 ≤ r ∧ r ≤ 122) ∨ (65 ≤ r ∧ r ≤ 90) ∨ (192 ≤ r ∧ r ≤ 591 ∧ r ≠ 215 ∧ r ≠ 247))
theorem Letter_calls (r : Int) (w : World) : Calls Tryd.prog 13 #[.int .i32 r] w fun e w' => e = .returned (.bool (letB r)) ∧ w = w' := by
  go_enter Tryd.func13, Tryd.ntmps13
  go_wp2
  all_goals go_ret
  all_goals exact ⟨ret_bool (by unfold letB; rw [Bool.eq_iff_iff]; simp; omega), rfl⟩
theorem RefLetter_calls (r : Int) (w : World) : Calls Tryd.prog 14 #[.int .i32 r] w fun e w' => e = .returned (.bool (letB r)) ∧ w = w' := by
  go_enter Tryd.func14, Tryd.ntmps14
  go_wp2
  all_goals go_ret
  all_goals exact ⟨ret_bool (by unfold letB; rw [Bool.eq_iff_iff]; simp; omega), rfl⟩
/-- A byte of a text that is none of a rune. -/
theorem isWrong_calls (w : World) (hT : Tabs w) (s : ByteArray) (hs : s.size ≤ 140737488351232) (i : Nat) (hi : i < s.size) :
    Calls Tryd.prog 26 #[.string s, .int .i64 i] w fun e w' => e = .returned (.bool (badR (decL ((byt s).drop i)))) ∧ Below w.heap.size w w' := by
  have hd := dec_calls w hT s i hi
  generalize decL ((byt s).drop i) = x at *
  obtain ⟨r, n⟩ := x
  dsimp only at hd
  have hi' : (i : Int) ≤ (s.size : Int) := by omega
  have HD := Lib.hid hd
  clear hd
  by_cases h1 : r = 65533
  · by_cases h2 : n = 1
    · have e1 : ((r : Int) == 65533) = true := by simp; omega
      have e2 : ((n : Int) == 1) = true := by simp; omega
      have HB := Lib.hid (show badR (r, n) = true by unfold badR; simp; omega)
      clear h1 h2
      go_enter Tryd.func26, Tryd.ntmps26
      go_wp2_with fail
      refine HD.out.mono ?_
      rintro e w1 ⟨rfl, hb⟩
      go_wp2_with fail
      go_ret
      exact ⟨ret_bool (by rw [HB.out]), hb⟩
    · have e1 : ((r : Int) == 65533) = true := by simp; omega
      have e2 : ((n : Int) == 1) = false := by simp; omega
      have HB := Lib.hid (show badR (r, n) = false by unfold badR; simp; omega)
      clear h1 h2
      go_enter Tryd.func26, Tryd.ntmps26
      go_wp2_with fail
      refine HD.out.mono ?_
      rintro e w1 ⟨rfl, hb⟩
      go_wp2_with fail
      go_ret
      exact ⟨ret_bool (by rw [HB.out]), hb⟩
  · have e1 : ((r : Int) == 65533) = false := by simp; omega
    have HB := Lib.hid (show badR (r, n) = false by unfold badR; simp; omega)
    clear h1
    go_enter Tryd.func26, Tryd.ntmps26
    go_wp2_with fail
    refine HD.out.mono ?_
    rintro e w1 ⟨rfl, hb⟩
    go_wp2_with fail
    go_ret
    exact ⟨ret_bool (by rw [HB.out]), hb⟩

theorem below_iter {B : Nat} {w : World} (hB : B ≤ w.heap.size) (s : ByteArray) (p : Nat) : Below B w (w.iter s p) := (Below.refl B w).alloc hB _
/-- How many runes. -/
theorem Width_calls (w : World) (s : ByteArray) (hs : s.size ≤ 140737488351232) :
    Calls Tryd.prog 17 #[.string s] w fun e w' => e = .returned (.int .i64 ((rn (byt s)).length : Nat)) ∧ Below w.heap.size w w' := by
  have hl := byt_len s
  have HL := Lib.hid hl
  clear hl
  go_enter Tryd.func17, Tryd.ntmps17
  go_wp2
  go_loopw [3] (fun n w' => ∃ (pos acc : Nat), w' = w.iter s pos ∧ n = .int .i64 acc ∧ Hid (acc + (rn ((byt s).drop pos)).length = (rn (byt s)).length) ∧ pos ≤ s.size ∧ acc ≤ pos) (fun _ w' => s.size - w'.iterPos w.heap.size)
  case atStart => exact ⟨0, 0, rfl, rfl, Lib.hid (by simp), by omega, Nat.le_refl _⟩
  case round =>
    obtain ⟨pos, acc, rfl, rfl, hc, hp0, ha⟩ := hrel
    by_cases hp : pos < s.size
    · have hne : (byt s).drop pos ≠ [] := fun e => by
        have := congrArg List.length e
        rw [List.length_drop, HL.out] at this
        simp at this
        omega
      have hnx : ∀ ty, (Instr.next (.pointer (some ⟨w.heap.size, 0, none⟩)) true ty).run Tryd.prog (w.iter s pos) = _ := fun ty => run_next_any w s pos ty hp
      simp only [decL_at] at hnx
      have hwd := dec_width hne
      have hk : pos + (decL ((byt s).drop pos)).2 ≤ s.size := by
        have := hwd.2.1
        rw [List.length_drop, HL.out] at this
        omega
      have hc2 := hc.out
      rw [rn_cons hne, List.length_cons, List.drop_drop] at hc2
      have HC := Lib.hid hc2
      have h1 := hwd.1
      clear hne hwd hc2 hc
      generalize decL ((byt s).drop pos) = x at *
      obtain ⟨r, n⟩ := x
      dsimp only at hnx hk h1 HC
      go_wp2
      go_roundw
      case rel => exact ⟨pos + n, acc + 1, rfl, by go_num, Lib.hid (by have := HC.out; omega), hk, by omega⟩
      case measure =>
        simp
        omega
    · have hnx : ∀ ty, (Instr.next (.pointer (some ⟨w.heap.size, 0, none⟩)) true ty).run Tryd.prog (w.iter s pos) = _ := fun ty => run_next_end w s pos ty hp
      have he : (byt s).drop pos = [] := List.drop_eq_nil_of_le (by rw [HL.out]; omega)
      have hc2 := hc.out
      rw [he, rn_nil, List.length_nil, Nat.add_zero] at hc2
      have HC := Lib.hid hc2
      clear he hc2 hc
      go_wp2
      go_ret
      exact ⟨ret_int (by rw [HC.out]), below_iter (Nat.le_refl _) _ _⟩
end Go.Proofs.YtjjcibbokeadiaaDoor
