/- The law's known; strings out of bytes. -/
import Derived.Test.YtodccdfpoocolaaWrPack
import Derived.Laws.BytesArg
import Derived.Lib.Bytes
set_option linter.unusedVariables false
namespace Go.Proofs.Ytodccdfpoocolaa
open Go.RowKit Go.Lib

theorem rfB_at {w : World} {A : Option Addr} {n : Nat} {xs : List Nat} (h : Rf flB w A n xs) {j : Nat} (hj : j < n) : ∃ b off x, A = some ⟨b, off, none⟩ ∧ xs[j]? = some x ∧ w.cell? ⟨b, off + j, none⟩ = some (.int .u8 (x : Int)) := by
  obtain ⟨b, off, x, rfl, hx, hc⟩ := h.at_ hj
  refine ⟨b, off, x, rfl, hx, ?_⟩
  have := hc 0 _ rfl
  simpa [flB] using this
def strOfB (xs : List Nat) : ByteArray := strOfNums (xs.map fun n : Nat => (n : Int))
theorem conv_str {w : World} {A : Option Addr} {n c : Nat} {xs : List Nat} (h : Rf flB w A n xs) : (convert 25 9 (.slice A n c)).run Try.prog w = .ok (.string (strOfB xs)) w := by
  cases A with
  | none =>
    have h0 : n = 0 := by
      rcases Nat.eq_zero_or_pos n with h0 | h0
      · exact h0
      · obtain ⟨b, off, e, _⟩ := h.2.2 h0; cases e
    subst h0
    have hx : xs = [] := List.eq_nil_of_length_eq_zero h.1
    subst hx
    exact run_convert_bytes_nil w 25 5 Try.underlying25 Try.underlying5 0 c 9 Try.underlying9
  | some a =>
    rcases Nat.eq_zero_or_pos n with h0 | h0
    · subst h0
      have hx : xs = [] := List.eq_nil_of_length_eq_zero h.1
      subst hx
      rw [run_convert_bytes_string w 25 9 5 _ 0 c Try.underlying25 Try.underlying5 Try.underlying9]
      have hl : (loadCells a 0).run Try.prog w = .ok (([] : List Int).map (Value.int .u8)).toArray w := by
        simpa using run_loadCells_list (P := Try.prog) w a [] (fun j v hj => by simp at hj)
      rw [run_bytesToString w a 0 c [] hl]
      rfl
    · obtain ⟨b, off, e, _⟩ := h.2.2 h0
      injection e with e
      subst e
      exact run_convert_bytes_arg w 25 5 Try.underlying25 Try.underlying5 b off n c (xs.map fun n : Nat => (n : Int)) (by rw [List.length_map, h.1]) (fun i hi => by
        obtain ⟨b', off', x, e, hx, hc⟩ := rfB_at h hi
        cases e
        rw [hc, List.getD_eq_getElem?_getD, List.getElem?_map, hx]
        rfl) 9 Try.underlying9
theorem known_pack : packB [.tru true] = some ([byteAt (crcAll [[1, 3, 1]]) 4 0, byteAt (crcAll [[1, 3, 1]]) 4 1, byteAt (crcAll [[1, 3, 1]]) 4 2, byteAt (crcAll [[1, 3, 1]]) 4 3, 0, 3, 1, 3, 1]) := by
  have e : bodyB [.tru true] = [1, 3, 1] := by decide +kernel
  unfold packB
  rw [e, if_pos (by decide +kernel)]
  rfl
set_option maxHeartbeats 4000000 in
theorem known_calls (w : World) : Calls Try.prog 16 #[] w fun e w' => e = .returned (.bool true) ∧ Below w.heap.size w w' := by
  go_enter Try.func16, Try.ntmps16
  go_wp2_with fail
  refine (boxNew_calls w).mono ?_
  rintro e w1 ⟨b, rfl, hc, hb1⟩
  go_wp2_with fail
  refine (AddBool_calls true w1 w.heap.size b _ _ hc hb1.size).mono ?_
  rintro e w2 (⟨hl, _, _⟩ | ⟨_, rfl, v1, hc2, ho, _⟩)
  · simp at hl
  have hb2 : Below w.heap.size w w2 := hb1.trans (ho.below hb1.size (fun q hq hs => (hc.foot q hs).1))
  have HC2 := Lib.hid hc2
  have HB2 := Lib.hid hb2
  clear hc ho hc2 hb1 hb2
  go_wp2_with fail
  refine (Pack_calls w2 b [.tru true] HC2.out.cz (by decide +kernel) (by decide)).mono ?_
  rintro e w3 (⟨bs, v, hp, rfl, o3, b3⟩ | ⟨hp, _⟩)
  rotate_left
  · rw [known_pack] at hp; cases hp
  rw [known_pack] at hp
  injection hp with hp
  obtain ⟨A, c, rfl, hR⟩ := o3.read (by decide)
  obtain ⟨ba, oa, x5, rfl, hx5, c5⟩ := rfB_at hR (j := 5) (by rw [← hp]; decide)
  obtain ⟨_, _, x6, e6, hx6, c6⟩ := rfB_at hR (j := 6) (by rw [← hp]; decide)
  obtain ⟨_, _, x7, e7, hx7, c7⟩ := rfB_at hR (j := 7) (by rw [← hp]; decide)
  obtain ⟨_, _, x8, e8, hx8, c8⟩ := rfB_at hR (j := 8) (by rw [← hp]; decide)
  cases e6
  cases e7
  cases e8
  have hlen : bs.length = 9 := by rw [← hp]; rfl
  rw [← hp] at hx5 hx6 hx7 hx8
  have h5 : x5 = 3 := by simpa using hx5.symm
  have h6 : x6 = 1 := by simpa using hx6.symm
  have h7 : x7 = 3 := by simpa using hx7.symm
  have h8 : x8 = 1 := by simpa using hx8.symm
  subst h5 h6 h7 h8
  have HB3 := Lib.hid (below_more HB2.out b3)
  rw [hlen]
  clear hR o3 b3 hx5 hx6 hx7 hx8 hp hlen
  go_wp2_with fail
  go_ret
  exact ⟨rfl, HB3.out⟩
end Go.Proofs.Ytodccdfpoocolaa
