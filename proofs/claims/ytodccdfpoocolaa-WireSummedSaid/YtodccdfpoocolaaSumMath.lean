/- Plain facts on the sum: each byte is told, and it is linear. -/
import Derived.Test.YtodccdfpoocolaaSumOf
namespace Go.Proofs.Ytodccdfpoocolaa

theorem xor_cancel {a b c : Nat} (h : a ^^^ c = b ^^^ c) : a = b := by
  have := congrArg (· ^^^ c) h
  simpa [Nat.xor_assoc] using this
theorem xor_cancel' {a b c : Nat} (h : c ^^^ a = c ^^^ b) : a = b := by
  rw [Nat.xor_comm c a, Nat.xor_comm c b] at h
  exact xor_cancel h
theorem half_bit (s : Nat) (h : s < 4294967296) : (s / 2).testBit 31 = false := Nat.testBit_lt_two_pow (by omega)
theorem crcStep_inj {s t : Nat} (hs : s < 4294967296) (ht : t < 4294967296) (h : crcStep s = crcStep t) : s = t := by
  have hp : (2197175160 : Nat).testBit 31 = true := by decide
  unfold crcStep at h
  by_cases h1 : s % 2 = 1 <;> by_cases h2 : t % 2 = 1
  · rw [if_pos h1, if_pos h2] at h
    have := xor_cancel h
    omega
  · rw [if_pos h1, if_neg h2] at h
    have := congrArg (·.testBit 31) h
    simp [Nat.testBit_xor, half_bit s hs, half_bit t ht, hp] at this
  · rw [if_neg h1, if_pos h2] at h
    have := congrArg (·.testBit 31) h
    simp [Nat.testBit_xor, half_bit s hs, half_bit t ht, hp] at this
  · rw [if_neg h1, if_neg h2] at h
    omega
theorem crcSteps_inj (n : Nat) : ∀ s t, s < 4294967296 → t < 4294967296 → crcSteps n s = crcSteps n t → s = t := by
  induction n with
  | zero => intro s t _ _ h; exact h
  | succ n ih => intro s t hs ht h; exact crcStep_inj hs ht (ih _ _ (crcStep_lt s hs) (crcStep_lt t ht) h)
theorem crc1_inj_s {s t c : Nat} (hs : s < 4294967296) (ht : t < 4294967296) (hc : c < 256) (h : crc1 s c = crc1 t c) : s = t :=
  xor_cancel (crcSteps_inj 8 _ _ (xor_lt _ _ hs (by omega)) (xor_lt _ _ ht (by omega)) h)
theorem crc1_inj_c {s c d : Nat} (hs : s < 4294967296) (hc : c < 256) (hd : d < 256) (h : crc1 s c = crc1 s d) : c = d :=
  xor_cancel' (crcSteps_inj 8 _ _ (xor_lt _ _ hs (by omega)) (xor_lt _ _ hs (by omega)) h)
theorem crcRow_inj (xs : List Nat) : ∀ s t, s < 4294967296 → t < 4294967296 → (∀ x ∈ xs, x < 256) → crcRow s xs = crcRow t xs → s = t := by
  induction xs with
  | nil => intro s t _ _ _ h; exact h
  | cons x r ih =>
    intro s t hs ht hx h
    exact crc1_inj_s hs ht (hx x (by simp)) (ih _ _ (crc1_lt s x hs (hx x (by simp))) (crc1_lt t x ht (hx x (by simp))) (fun y hy => hx y (by simp [hy])) h)
theorem crcRow_set (xs : List Nat) : ∀ (s k y : Nat), s < 4294967296 → (∀ x ∈ xs, x < 256) → (h : k < xs.length) → y < 256 → crcRow s (xs.set k y) = crcRow s xs → y = xs[k] := by
  induction xs with
  | nil => intro s k y _ _ h; simp at h
  | cons x r ih =>
    intro s k y hs hx hk hy h
    have hx0 := hx x (by simp)
    have hr : ∀ z ∈ r, z < 256 := fun z hz => hx z (by simp [hz])
    cases k with
    | zero => exact crc1_inj_c hs hy hx0 (crcRow_inj r _ _ (crc1_lt s y hs hy) (crc1_lt s x hs hx0) hr h)
    | succ k => exact ih _ k y (crc1_lt s x hs hx0) hr (by simpa using hk) hy h
theorem crcNot_inj {a b : Nat} (ha : a < 4294967296) (hb : b < 4294967296) (h : crcNot a = crcNot b) : a = b := by unfold crcNot at h; omega
theorem crcAll_one (xs : List Nat) : crcAll [xs] = crcNot (crcRow 4294967295 xs) := rfl
theorem crcAll_lt (ls : List (List Nat)) : crcAll ls < 4294967296 := by unfold crcAll crcNot; omega
/-- A row one byte of which is another one has another sum. -/
theorem crcAll_set (xs : List Nat) (k y : Nat) (hx : ∀ x ∈ xs, x < 256) (hk : k < xs.length) (hy : y < 256) (hne : y ≠ xs.getD k 0) : crcAll [xs.set k y] ≠ crcAll [xs] := by
  intro h
  have hx' : ∀ x ∈ xs.set k y, x < 256 := fun x hxx => by
    rcases List.mem_or_eq_of_mem_set hxx with h1 | h1
    · exact hx x h1
    · omega
  have h1 := crcNot_inj (crcRow_lt _ _ (by omega) hx') (crcRow_lt _ _ (by omega) hx) h
  have h2 := crcRow_set xs _ k y (by omega) hx hk hy h1
  simp [List.getD_eq_getElem?_getD, List.getElem?_eq_getElem hk] at hne
  exact hne h2
theorem crcRow_append (s : Nat) (xs ys : List Nat) : crcRow s (xs ++ ys) = crcRow (crcRow s xs) ys := by simp [crcRow]
theorem crcRows_flat (ls : List (List Nat)) : ∀ s, crcRows s ls = crcRow s ls.flatten := by
  induction ls with
  | nil => intro s; rfl
  | cons x r ih => intro s; rw [List.flatten_cons, crcRow_append]; exact ih _
/-- How bytes are parted into rows does not matter. -/
theorem crcAll_flat (ls : List (List Nat)) : crcAll ls = crcAll [ls.flatten] := by
  unfold crcAll
  rw [crcRows_flat ls, crcRows_flat [ls.flatten]]
  simp

/-! Linear: the step is. -/
theorem xor4 (a b c d : Nat) : (a ^^^ b) ^^^ (c ^^^ d) = (a ^^^ c) ^^^ (b ^^^ d) := by
  rw [Nat.xor_assoc, Nat.xor_assoc, ← Nat.xor_assoc b c d, Nat.xor_comm b c, Nat.xor_assoc c b d]
theorem xor_half (a b : Nat) : (a ^^^ b) / 2 = (a / 2) ^^^ (b / 2) := Nat.xor_div_two
theorem xor_odd (a b : Nat) : (a ^^^ b) % 2 = (a % 2 + b % 2) % 2 := by
  have h := Nat.testBit_xor a b 0
  simp only [Nat.testBit_zero] at h
  have ha : a % 2 = 0 ∨ a % 2 = 1 := by omega
  have hb : b % 2 = 0 ∨ b % 2 = 1 := by omega
  have hc : (a ^^^ b) % 2 = 0 ∨ (a ^^^ b) % 2 = 1 := by omega
  rcases ha with ha | ha <;> rcases hb with hb | hb <;> rcases hc with hc | hc <;> simp [ha, hb, hc] at h ⊢
theorem crcStep_xor (a b : Nat) : crcStep (a ^^^ b) = crcStep a ^^^ crcStep b := by
  unfold crcStep
  rw [xor_half, xor_odd]
  by_cases h1 : a % 2 = 1 <;> by_cases h2 : b % 2 = 1
  · rw [if_neg (by omega), if_pos h1, if_pos h2, xor4, Nat.xor_self, Nat.xor_zero]
  · rw [if_pos (by omega), if_pos h1, if_neg h2, Nat.xor_assoc, Nat.xor_comm (b / 2), Nat.xor_assoc]
  · rw [if_pos (by omega), if_neg h1, if_pos h2, Nat.xor_assoc]
  · rw [if_neg (by omega), if_neg h1, if_neg h2]
theorem crcSteps_xor (n : Nat) : ∀ a b, crcSteps n (a ^^^ b) = crcSteps n a ^^^ crcSteps n b := by
  induction n with
  | zero => intro a b; rfl
  | succ n ih => intro a b; show crcSteps n (crcStep (a ^^^ b)) = _; rw [crcStep_xor]; exact ih _ _
theorem crc1_xor (s t c d : Nat) : crc1 (s ^^^ t) (c ^^^ d) = crc1 s c ^^^ crc1 t d := by
  unfold crc1
  rw [xor4, crcSteps_xor]
/-- Of three rows of one length, xored, the state is the xor of theirs. -/
theorem crcRow_xor (xs : List Nat) : ∀ (ys : List Nat) (s t : Nat), xs.length = ys.length → crcRow (s ^^^ t) (List.zipWith (· ^^^ ·) xs ys) = crcRow s xs ^^^ crcRow t ys := by
  induction xs with
  | nil => intro ys s t h; simp at h; rw [List.eq_nil_of_length_eq_zero h.symm]; rfl
  | cons x r ih =>
    intro ys s t h
    cases ys with
    | nil => simp at h
    | cons y q =>
      show crcRow (crc1 (s ^^^ t) (x ^^^ y)) (List.zipWith _ r q) = crcRow (crc1 s x) r ^^^ crcRow (crc1 t y) q
      rw [crc1_xor]
      exact ih q _ _ (by simpa using h)
end Go.Proofs.Ytodccdfpoocolaa
