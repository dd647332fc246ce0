/- Walk of WireOfNothing. -/
import Derived.Test.YtodccdfpoocolaaWrRUn
import Derived.Test.YtodccdfpoocolaaWrLong
set_option linter.unusedVariables false
namespace Go.Proofs.Ytodccdfpoocolaa
open Go.RowKit Go.Lib

theorem PackNil_calls (w : World) : Calls Try.prog 15 #[.pointer none] w fun e w' => e = .returned (.tuple #[.slice none 0 0, .int .i64 1]) ∧ w = w' := by
  go_enter Try.func15, Try.ntmps15
  go_wp2_with fail
  go_ret2
  exact ⟨rfl, rfl⟩
set_option maxHeartbeats 8000000 in
theorem nothing_calls (n : Int) (w : World) : Calls Try.prog 8 #[.int .i64 n] w fun e w' => e = .returned (.bool true) ∧ Below w.heap.size w w' := by
  by_cases h1 : n < 0
  · go_enter Try.func8, Try.ntmps8
    go_wp2
    go_ret
    exact ⟨rfl, Below.refl _ _⟩
  by_cases h2 : (20 : Int) < n
  · go_enter Try.func8, Try.ntmps8
    go_wp2
    go_ret
    exact ⟨rfl, Below.refl _ _⟩
  obtain ⟨n, rfl⟩ := Int.eq_ofNat_of_zero_le (show 0 ≤ n by omega)
  have hmk := fun W => Go.run_make_row' (P := Try.prog) 25 5 (.int .u8 0) 1 Try.underlying25 (by kernel_rfl) rfl .i64 .i64 n (by omega) (by omega) W
  have hby : ∀ x ∈ List.replicate n 0, x < 256 := fun x hx => by rw [(List.mem_replicate.1 hx).2]; decide
  have HU := fun W => Unpack_calls _ _ n n _ (made_rf W n (by omega)) hby (Nat.le_refl _) (by omega) (by omega)
  have HV := fun W => RefUn_calls _ _ n n _ (made_rf W n (by omega)) hby (Nat.le_refl _) (by omega)
  obtain ⟨q1, q2⟩ := refU_eq hby
  have HU := Lib.hid HU
  have HV := Lib.hid HV
  have Q1 := Lib.hid q1
  have Q2 := Lib.hid q2
  clear hby q1 q2
  go_enter Try.func8, Try.ntmps8
  go_wp2_with fail
  refine (PackNil_calls w).mono ?_
  rintro e w1 ⟨rfl, rfl⟩
  go_wp2_with fail
  refine (HU.out w).mono ?_
  rintro e w2 (⟨its, d, v4, hi, rfl, hc4, b2⟩ | ⟨hi, rfl, b2⟩)
  · have HB2 := Lib.hid (((Below.refl _ _).alloc (o := .cells (madeCells #[.int .u8 0] n) 5) (Nat.le_refl w.heap.size)).trans (b2.mono (by simp)))
    have HI := Lib.hid hi
    clear b2 hc4 hi
    go_wp2_with fail
    refine (HV.out w2).mono ?_
    rintro e w3 (⟨ts, b', v', hr, rfl, _, b3⟩ | ⟨hr, rfl, b3⟩)
    · have HB3 := Lib.hid (HB2.out.trans (((Below.refl _ _).alloc (o := .cells (madeCells #[.int .u8 0] n) 5) HB2.out.size).trans (b3.mono (by simp; have := HB2.out.size; omega))))
      clear b3 hr
      go_wp2_with fail
      refine (known_calls _).mono ?_
      rintro e w4 ⟨rfl, b4⟩
      go_wp2_with fail
      go_ret
      exact ⟨rfl, HB3.out.trans (b4.mono HB3.out.size)⟩
    · rw [Q2.out hr] at HI
      cases HI.out
  · have HB2 := Lib.hid (((Below.refl _ _).alloc (o := .cells (madeCells #[.int .u8 0] n) 5) (Nat.le_refl w.heap.size)).trans (b2.mono (by simp)))
    have HI := Lib.hid hi
    clear b2 hi
    go_wp2_with fail
    refine (HV.out w2).mono ?_
    rintro e w3 (⟨ts, b', v', hr, rfl, _, b3⟩ | ⟨hr, rfl, b3⟩)
    · rw [(Q1.out ts hr).1] at HI
      cases HI.out
    · have HB3 := Lib.hid (HB2.out.trans (((Below.refl _ _).alloc (o := .cells (madeCells #[.int .u8 0] n) 5) HB2.out.size).trans (b3.mono (by simp; have := HB2.out.size; omega))))
      clear b3 hr
      go_wp2_with fail
      refine (known_calls _).mono ?_
      rintro e w4 ⟨rfl, b4⟩
      go_wp2_with fail
      go_ret
      exact ⟨rfl, HB3.out.trans (b4.mono HB3.out.size)⟩
end Go.Proofs.Ytodccdfpoocolaa
