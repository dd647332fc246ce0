/- Walks of sum.Of and of the reference's Of: both come to 'crcAll'. -/
import Derived.Test.YtodccdfpoocolaaSumOne
namespace Go.Proofs.Ytodccdfpoocolaa
open Go.ChangeShapes Go.WideShapes Go.ChangeAt Go.RowKit

def crcRow (s : Nat) (xs : List Nat) : Nat := xs.foldl crc1 s
def crcRows (s : Nat) (ls : List (List Nat)) : Nat := ls.foldl crcRow s
def crcNot (n : Nat) : Nat := 4294967295 - n
def crcAll (ls : List (List Nat)) : Nat := crcNot (crcRows 4294967295 ls)

/-- A slice value reads as bytes. -/
def RdB (w : World) (A : Option Addr) (n : Nat) (xs : List Nat) : Prop :=
  xs.length = n ∧ n ≤ 9223372036854775807 ∧ (∀ x ∈ xs, x < 256) ∧ (0 < n → ∃ b off, A = some ⟨b, off, none⟩ ∧ ∀ j, j < n → w.cell? ⟨b, off + j, none⟩ = some (.int .u8 ((xs.getD j 0 : Nat) : Int)))
/-- A slice of slices reads as rows of bytes. -/
def RdRows (w : World) (L : Option Addr) (n : Nat) (ls : List (List Nat)) : Prop :=
  ls.length = n ∧ n ≤ 9223372036854775807 ∧ (0 < n → ∃ b off, L = some ⟨b, off, none⟩ ∧ ∀ j, j < n → ∃ A c, w.cell? ⟨b, off + j, none⟩ = some (.slice A (ls.getD j []).length c) ∧ RdB w A (ls.getD j []).length (ls.getD j []))

theorem u8_wf {n : Int} (h : (Lit.int .u8 n).wf = true) : 0 ≤ n ∧ n < 256 := by
  simp [Lit.wf, IntKind.min, IntKind.max, IntKind.bits, IntKind.signed] at h
  omega
/-- A row of bytes that came in, as bytes. -/
theorem rdb_of_row {w : World} {a : Option Addr} {len cap : Nat} {zs : List Int}
    (h : (a = none ∧ len = 0 ∧ cap = 0 ∧ zs = []) ∨ ∃ x, a = some x ∧ len ≤ cap ∧ cap ≤ maxLen ∧ zs.length = cap ∧ (∀ i, i < zs.length → w.cell? (x.add i) = some (.int .u8 (zs.getD i 0))) ∧ ∀ n ∈ zs, (Lit.int .u8 n).wf = true) :
    ∃ xs, RdB w a len xs := by
  rcases h with ⟨rfl, rfl, rfl, rfl⟩ | ⟨x, rfl, hl, hm, hz, hcell, hwz⟩
  · exact ⟨[], rfl, by omega, by simp, fun h => absurd h (by omega)⟩
  · refine ⟨(zs.take len).map Int.toNat, by simp; omega, by unfold maxLen at hm; omega, ?_, fun hn => ?_⟩
    · intro y hy
      obtain ⟨z, hz1, rfl⟩ := List.mem_map.1 hy
      have := u8_wf (hwz z (List.mem_of_mem_take hz1))
      omega
    · obtain ⟨b, off, spot⟩ := x
      have h0 := hcell 0 (by omega)
      have hs : spot = none := by simpa [Addr.add] using World.cell?_spot h0
      subst hs
      refine ⟨b, off, rfl, fun j hj => ?_⟩
      have h1 := hcell j (by omega)
      have e : (⟨b, off, none⟩ : Addr).add j = ⟨b, off + j, none⟩ := by unfold Addr.add; split <;> simp_all
      rw [e] at h1
      rw [h1]
      have hj2 : j < zs.length := by omega
      have hw := u8_wf (hwz _ (List.getElem_mem hj2))
      congr 2
      simp [List.getD_eq_getElem?_getD, hj, List.getElem?_eq_getElem hj2]
      omega
theorem crcRow_lt (xs : List Nat) : ∀ s, s < 4294967296 → (∀ x ∈ xs, x < 256) → crcRow s xs < 4294967296 := by
  induction xs with
  | nil => intro s h _; exact h
  | cons x r ih => intro s h hx; exact ih _ (crc1_lt s x h (hx x (by simp))) (fun y hy => hx y (by simp [hy]))
theorem crcRow_snoc (s : Nat) (xs : List Nat) (k : Nat) (h : k < xs.length) : crcRow s (xs.take (k + 1)) = crc1 (crcRow s (xs.take k)) (xs.getD k 0) := by
  unfold crcRow
  rw [List.take_succ_eq_append_getElem h, List.foldl_append]
  simp [List.getD_eq_getElem?_getD, List.getElem?_eq_getElem h]
theorem crcRows_snoc (s : Nat) (ls : List (List Nat)) (k : Nat) (h : k < ls.length) : crcRows s (ls.take (k + 1)) = crcRow (crcRows s (ls.take k)) (ls.getD k []) := by
  unfold crcRows
  rw [List.take_succ_eq_append_getElem h, List.foldl_append]
  simp [List.getD_eq_getElem?_getD, List.getElem?_eq_getElem h]
theorem byte_at {xs : List Nat} (h : ∀ x ∈ xs, x < 256) (k : Nat) (hk : k < xs.length) : xs.getD k 0 < 256 := by
  simp only [List.getD_eq_getElem?_getD, List.getElem?_eq_getElem hk, Option.getD_some]
  exact h _ (List.getElem_mem hk)
theorem ones_xor (n : Nat) (h : n < 4294967296) : 4294967295 ^^^ n = 4294967295 - n := by
  have h1 := congrArg BitVec.toNat (BitVec.allOnes_xor (x := BitVec.ofNat 32 n))
  rw [BitVec.toNat_xor, BitVec.toNat_not, BitVec.toNat_ofNat, BitVec.toNat_allOnes] at h1
  rw [Nat.mod_eq_of_lt (by omega)] at h1
  simpa using h1
theorem crc_not (n : Nat) (h : n < 4294967296) : bits .xor .u32 4294967295 (n : Int) = ((crcNot n : Nat) : Int) := by
  have h1 := u32_xor_nat 4294967295 n (by omega) h
  rw [ones_xor n h] at h1
  exact h1

set_option maxHeartbeats 400000 in
theorem Of_calls (L : Option Addr) (n c : Nat) (ls : List (List Nat)) (w : World) (h : RdRows w L n ls) :
    Calls Try.prog 31 #[.slice L n c] w fun e w' => e = .returned (.int .u32 (crcAll ls)) ∧ w = w' := by
  obtain ⟨hl, hm, hc⟩ := h
  go_enter Try.func31, Try.ntmps31
  go_wp2
  go_loop [3, 10] (fun x i => ∃ k s : Nat, k ≤ n ∧ s < 4294967296 ∧ Hid (s = crcRows 4294967295 (ls.take k)) ∧ i = .int .i64 k ∧ x = .int .u32 s) (fun _ i => n - (intOf i).toNat)
  case atStart => exact ⟨0, 4294967295, by omega, by omega, Lib.hid rfl, rfl, rfl⟩
  case round =>
    obtain ⟨k, s, hk, hs, hr, rfl, rfl⟩ := hrel
    by_cases hlt : k < n
    · obtain ⟨b, off, rfl, hcell⟩ := hc (by omega)
      obtain ⟨A, c1, hrow, hlen, hm1, hb1, hc1⟩ := hcell k hlt
      generalize hxs : ls.getD k [] = xs at *
      have Hxs := Lib.hid hxs
      clear hxs hcell hc hlen
      go_wp2
      go_loop [3, 16] (fun x i => ∃ j t : Nat, j ≤ xs.length ∧ t < 4294967296 ∧ Hid (t = crcRow s (xs.take j)) ∧ i = .int .i64 j ∧ x = .int .u32 t) (fun _ i => xs.length - (intOf i).toNat)
      case atStart => exact ⟨0, s, by omega, hs, Lib.hid rfl, rfl, rfl⟩
      case round =>
        obtain ⟨j, t, hj, ht, hr1, rfl, rfl⟩ := hrel
        by_cases hlt1 : j < xs.length
        · obtain ⟨b1, off1, rfl, hcell1⟩ := hc1 (by omega)
          have hx := hcell1 j hlt1
          have hx2 := byte_at hb1 j hlt1
          have H2 := Lib.hid (crcRow_snoc s xs j hlt1)
          generalize xs.getD j 0 = y at *
          clear hcell1 hc1
          go_wp2_with (go_at_call 47; refine (one_calls t y ht hx2 _).mono ?_; rintro e w' ⟨rfl, rfl⟩)
          go_round
          case rel => exact ⟨j + 1, crc1 t y, by omega, crc1_lt _ _ ht hx2, Lib.hid (by rw [H2.out, hr1.out]), by go_num, rfl⟩
          case measure => simp [intOf]; omega
        · go_wp2
          go_round
          case rel => exact ⟨k + 1, t, by omega, ht, Lib.hid (by rw [hr1.out, List.take_of_length_le (by omega), crcRows_snoc _ _ _ (by omega), ← hr.out, Hxs.out]), by go_num, rfl⟩
          case measure => simp [intOf]; omega
    · have hsg : IntKind.u32.signed = false := rfl
      have hmx : IntKind.u32.max = 4294967295 := rfl
      go_wp2
      go_ret
      exact ⟨ret_int (by rw [crc_not s hs, hr.out, List.take_of_length_le (by omega)]; rfl), rfl⟩

set_option maxHeartbeats 400000 in
theorem Ref_calls (A : Option Addr) (n c : Nat) (xs : List Nat) (w : World) (h : RdB w A n xs) :
    Calls Try.prog 23 #[.slice A n c] w fun e w' => e = .returned (.int .u32 (crcAll [xs])) ∧ w = w' := by
  obtain ⟨hl, hm, hb, hc⟩ := h
  go_enter Try.func23, Try.ntmps23
  go_wp2
  go_loop [3, 4] (fun x i => ∃ k s : Nat, k ≤ n ∧ s < 4294967296 ∧ Hid (s = crcRow 4294967295 (xs.take k)) ∧ i = .int .i64 k ∧ x = .int .u32 s) (fun _ i => n - (intOf i).toNat)
  case atStart => exact ⟨0, 4294967295, by omega, by omega, Lib.hid rfl, rfl, rfl⟩
  case round =>
    obtain ⟨k, s, hk, hs, hr, rfl, rfl⟩ := hrel
    by_cases hlt : k < n
    · obtain ⟨b, off, rfl, hcell⟩ := hc (by omega)
      have hx := hcell k hlt
      have hx2 := byte_at hb k (by omega)
      have H2 := Lib.hid (crcRow_snoc 4294967295 xs k (by omega))
      have hl' := Lib.hid hl
      generalize xs.getD k 0 = y at *
      have H0 := Lib.hid (u32_xor_nat s y hs (by omega))
      clear hcell hc hb hl
      go_wp2
      go_loop [3, 5] (fun x i => ∃ j t : Nat, j ≤ 8 ∧ t < 4294967296 ∧ Hid (crcSteps (8 - j) t = crc1 s y) ∧ i = .int .i64 j ∧ x = .int .u32 t) (fun _ i => 8 - (intOf i).toNat)
      case atStart => exact ⟨0, s ^^^ y, by omega, xor_lt _ _ hs (by omega), Lib.hid rfl, rfl, by rw [H0.out]⟩
      case round =>
        obtain ⟨j, t, hj, ht, hr1, rfl, rfl⟩ := hrel
        by_cases hlt1 : j < 8
        · go_wp2
          · go_round
            case rel => exact ⟨j + 1, crcStep t, by omega, crcStep_lt t ht, Lib.hid (steps_back j t _ hlt1 hr1.out), by go_num, by rw [step_odd t ht (by assumption)]⟩
            case measure => simp [intOf]; omega
          · go_round
            case rel => exact ⟨j + 1, crcStep t, by omega, crcStep_lt t ht, Lib.hid (steps_back j t _ hlt1 hr1.out), by go_num, by rw [step_even t ht (by assumption)]⟩
            case measure => simp [intOf]; omega
        · have he := Lib.hid (steps_end j t _ hj hlt1 hr1.out)
          go_wp2
          go_round
          case rel => exact ⟨k + 1, t, by omega, ht, Lib.hid (by rw [he.out, H2.out, hr.out]), by go_num, rfl⟩
          case measure => simp [intOf]; omega
    · have hsg : IntKind.u32.signed = false := rfl
      have hmx : IntKind.u32.max = 4294967295 := rfl
      go_wp2
      go_ret
      exact ⟨ret_int (by rw [crc_not s hs, hr.out, List.take_of_length_le (by omega)]; rfl), rfl⟩
end Go.Proofs.Ytodccdfpoocolaa
