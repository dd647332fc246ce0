/- Contracts of slices.Index and slices.Contains at whole numbers and at Needs. -/
import Derived.Test.YtmdggodkkkihhaaLyFn
set_option linter.unusedVariables false
namespace Go.Proofs.Ytmdggodkkkihhaa
open Go.RowKit

theorem any_idx {α : Type} (p : α → Bool) (xs : List α) : decide (0 ≤ idxF p xs) = xs.any p := by
  have h := idxF_neg p xs
  rw [Bool.eq_iff_iff, decide_eq_true_eq]
  constructor
  · intro h1
    cases h2 : xs.any p with
    | true => rfl
    | false => have := h.2.2 h2; omega
  · intro h1
    rcases Int.lt_or_le (idxF p xs) 0 with h2 | h2
    · rw [h.2.1 h2] at h1; cases h1
    · exact h2
set_option maxHeartbeats 2000000 in
theorem IXI_calls (w : World) (A : Option Addr) (n c : Nat) (xs : List Int) (hA : Sl flI w A n c xs) (v : Int) :
    Calls Try.prog 41 #[.slice A n c, .int .i64 v] w fun e w' => e = .returned (.int .i64 (idxF (fun x => decide (v = x)) xs)) ∧ Below w.heap.size w w' := by
  have HL := Lib.hid hA.len
  have HA := Lib.hid hA
  have hn := hA.rf.2.1
  clear hA
  go_enter Try.func41, Try.ntmps41
  go_wp2_with fail
  go_loopw [8] (fun i wr => ∃ k : Nat, k ≤ n ∧ i = .int .i64 k ∧ Hid (Below w.heap.size w wr ∧ ∀ j y, j < k → xs[j]? = some y → decide (v = y) = false)) (fun i _ => n - (intOf i).toNat)
  case atStart => exact ⟨0, by omega, rfl, Lib.hid ⟨Below.refl _ _, fun j y hj => absurd hj (by omega)⟩⟩
  case round =>
    obtain ⟨k, hk, rfl, hr⟩ := hrel
    by_cases hlt : k < n
    · obtain ⟨b, off, x, rfl, hx, c0⟩ := HA.out.int hlt
      have c0 := cell_stay hr.out.1 c0
      have HX := Lib.hid hx
      clear hx
      by_cases hq : v = x
      · have HF := Lib.hid (idxF_at (p := fun x => decide (v = x)) HX.out (decide_eq_true hq) hr.out.2)
        subst hq
        go_wp2_with fail
        go_ret
        exact ⟨ret_int (by rw [HF.out]), hr.out.1⟩
      · have HN := Lib.hid (none_step (p := fun x => decide (v = x)) hr.out.2 HX.out (decide_eq_false hq))
        have hq1 : decide (v = x) = false := decide_eq_false hq
        go_wp2_with fail
        go_roundw
        case rel => exact ⟨k + 1, by omega, by go_num, Lib.hid ⟨hr.out.1, HN.out⟩⟩
        case measure => simp [intOf]; omega
    · obtain rfl : n = k := by omega
      have HF := Lib.hid (idxF_none (p := fun x => decide (v = x)) (fun j y hj hy => hr.out.2 j y (by have := HL.out; omega) hy))
      clear hlt
      go_wp2_with fail
      go_ret
      exact ⟨ret_int (by rw [HF.out]), hr.out.1⟩
theorem CTI_calls (w : World) (A : Option Addr) (n c : Nat) (xs : List Int) (hA : Sl flI w A n c xs) (v : Int) :
    Calls Try.prog 34 #[.slice A n c, .int .i64 v] w fun e w' => e = .returned (.bool (xs.any fun x => decide (v = x))) ∧ Below w.heap.size w w' := by
  have K := Lib.hid (IXI_calls w A n c xs hA v)
  have HF := Lib.hid (any_idx (fun x => decide (v = x)) xs)
  clear hA
  generalize idxF (fun x => decide (v = x)) xs = z at *
  go_enter Try.func34, Try.ntmps34
  go_wp2_with (refine K.out.mono ?_; rintro e w1 ⟨rfl, hb⟩)
  go_ret
  exact ⟨ret_bool (by rw [← HF.out]), hb⟩
end Go.Proofs.Ytmdggodkkkihhaa
