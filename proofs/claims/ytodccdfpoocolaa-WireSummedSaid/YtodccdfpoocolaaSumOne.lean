/- Walk of sum.one and of the reference's inner loop: both come to 'crc1'. -/
import Derived.Test.YtodccdfpoocolaaRows
import Derived.Test.YtodccdfpoocolaaBase
namespace Go.Proofs.Ytodccdfpoocolaa
open Go.ChangeShapes Go.WideShapes Go.ChangeAt Go.RowKit

def crcStep (s : Nat) : Nat := if s % 2 = 1 then (s / 2) ^^^ 2197175160 else s / 2
def crcSteps : Nat → Nat → Nat
  | 0, s => s
  | n + 1, s => crcSteps n (crcStep s)
def crc1 (s c : Nat) : Nat := crcSteps 8 (s ^^^ c)

theorem xor_lt (a b : Nat) (ha : a < 4294967296) (hb : b < 4294967296) : a ^^^ b < 4294967296 :=
  Nat.xor_lt_two_pow (n := 32) ha hb
theorem crcStep_lt (s : Nat) (h : s < 4294967296) : crcStep s < 4294967296 := by
  unfold crcStep
  split
  · exact xor_lt _ _ (by omega) (by omega)
  · omega
theorem crcSteps_lt (n : Nat) : ∀ s, s < 4294967296 → crcSteps n s < 4294967296 := by
  induction n with
  | zero => intro s h; exact h
  | succ n ih => intro s h; exact ih _ (crcStep_lt s h)
theorem crc1_lt (s c : Nat) (h : s < 4294967296) (hc : c < 256) : crc1 s c < 4294967296 :=
  crcSteps_lt _ _ (xor_lt _ _ h (by omega))

theorem odd_bit (n : Nat) (hn : n < 4294967296) : bits .and .u32 (n : Int) 1 = ((n % 2 : Nat) : Int) := by
  have := u32_and_nat n 1 hn (by omega)
  rw [nat_mask1] at this
  exact this
theorem step_odd (n : Nat) (hn : n < 4294967296) (h : (bits .and .u32 (n : Int) 1 == 1) = true) :
    bits .xor .u32 ((n : Int) / 2) 2197175160 = ((crcStep n : Nat) : Int) := by
  rw [odd_bit n hn] at h
  have h1 : n % 2 = 1 := by simp at h; omega
  have := u32_xor_nat (n / 2) 2197175160 (by omega) (by omega)
  unfold crcStep
  rw [if_pos h1, ← this]
  rfl
theorem step_even (n : Nat) (hn : n < 4294967296) (h : (bits .and .u32 (n : Int) 1 == 1) = false) :
    ((n : Int) / 2) = ((crcStep n : Nat) : Int) := by
  rw [odd_bit n hn] at h
  have h1 : ¬ n % 2 = 1 := by simp at h; omega
  unfold crcStep
  rw [if_neg h1]
  rfl
theorem steps_back (k n r : Nat) (hk : k < 8) (h : crcSteps (8 - k) n = r) : crcSteps (8 - (k + 1)) (crcStep n) = r := by
  have e : 8 - k = (8 - (k + 1)) + 1 := by omega
  rw [e] at h
  exact h
theorem steps_end (k n r : Nat) (hk : k ≤ 8) (hk' : ¬ k < 8) (h : crcSteps (8 - k) n = r) : n = r := by
  have e : k = 8 := by omega
  subst e
  exact h

set_option maxHeartbeats 400000 in
theorem one_calls (s c : Nat) (hs : s < 4294967296) (hc : c < 256) (w : World) :
    Calls Try.prog 47 #[.int .u32 s, .int .u8 c] w fun e w' => e = .returned (.int .u32 (crc1 s c)) ∧ w = w' := by
  have H0 := Lib.hid (u32_xor_nat s c hs (by omega))
  go_enter Try.func47, Try.ntmps47
  go_wp2
  go_loop [0, 10] (fun x i => ∃ k n : Nat, k ≤ 8 ∧ n < 4294967296 ∧ Hid (crcSteps (8 - k) n = crc1 s c) ∧ i = .int .i64 k ∧ x = .int .u32 n) (fun _ i => 8 - (intOf i).toNat)
  case atStart =>
    exact ⟨0, s ^^^ c, by omega, xor_lt _ _ hs (by omega), Lib.hid rfl, rfl, by rw [H0.out]⟩
  case round =>
    obtain ⟨k, n, hk, hn, hr, rfl, rfl⟩ := hrel
    by_cases hlt : k < 8
    · go_wp2
      · go_round
        case rel => exact ⟨k + 1, crcStep n, by omega, crcStep_lt n hn, Lib.hid (steps_back k n _ hlt hr.out), by go_num, by rw [step_odd n hn (by assumption)]⟩
        case measure => simp [intOf]; omega
      · go_round
        case rel => exact ⟨k + 1, crcStep n, by omega, crcStep_lt n hn, Lib.hid (steps_back k n _ hlt hr.out), by go_num, by rw [step_even n hn (by assumption)]⟩
        case measure => simp [intOf]; omega
    · go_wp2
      go_ret
      exact ⟨ret_int (congrArg _ (steps_end k n _ hk hlt hr.out)), rfl⟩
end Go.Proofs.Ytodccdfpoocolaa
