/- Numbers as bytes: wire.number, pointsmanref8.big. -/
import Derived.Test.YtodccdfpoocolaaCrPr
import Derived.Lib.AppendStr
set_option linter.unusedVariables false
namespace Go.Proofs.Ytodccdfpoocolaa
open Go.RowKit

/-- The bytes of a number, the highest first: those at places k .. of m. -/
def byteAt (z m i : Nat) : Nat := z / 2 ^ (8 * (m - 1 - i)) % 256
def bigTo (z m k : Nat) : List Nat := (List.range k).map (byteAt z m)
def bigB (z m : Nat) : List Nat := bigTo z m m
theorem bigTo_succ (z m k : Nat) : bigTo z m (k + 1) = bigTo z m k ++ [byteAt z m k] := by unfold bigTo; rw [List.range_succ, List.map_append]; rfl
theorem bigTo_len (z m k : Nat) : (bigTo z m k).length = k := by simp [bigTo]
theorem byteAt_int (z m k : Nat) : ((byteAt z m k : Nat) : Int) = (z : Int) / 2 ^ (8 * (m - 1 - k)) % 256 := by
  unfold byteAt
  rw [Int.natCast_emod, Int.natCast_ediv, Int.natCast_pow]
  rfl
theorem info_b : (Try.prog.info? 5).map (fun i => (i.zero, i.size, i.bytes)) = some (some (.int .u8 0), 1, 1) := by kernel_rfl
set_option maxHeartbeats 2000000 in
theorem number_calls (w0 : World) (v : Value) (bs : List Nat) (z m : Nat) (hz : z < 18446744073709551616) (hm : m ≤ 8) (w : World) (hb : Below w0.heap.size w0 w) (ho : Ow flB w w0.heap.size 5 v bs) (hl : bs.length ≤ 1000000) :
    Calls Try.prog 30 #[v, .int .u64 (z : Int), .int .i64 (m : Int)] w fun e w' => ∃ v', e = .returned v' ∧ Ow flB w' w0.heap.size 5 v' (bs ++ bigB z m) ∧ Below w0.heap.size w0 w' := by
  obtain ⟨i0, hi0, hz0, hz1, hz2⟩ := info_parts info_b
  obtain ⟨A, c, rfl, -⟩ := ho.read (by decide)
  have HO := Lib.hid ho
  have HB := Lib.hid hb
  clear ho hb
  go_enter Try.func30, Try.ntmps30
  go_wp2_with fail
  go_loopw [0, 9] (fun v i wr => ∃ k : Nat, k ≤ m ∧ i = .int .i64 k ∧ Hid (Ow flB wr w0.heap.size 5 v (bs ++ bigTo z m k)) ∧ Hid (Below w0.heap.size w0 wr)) (fun _ i _ => m - (intOf i).toNat)
  case atStart => exact ⟨0, by omega, rfl, by simpa [bigTo] using HO, HB⟩
  case round =>
    obtain ⟨k, hk, rfl, hO, hB⟩ := hrel
    obtain ⟨R, hR⟩ : ∃ R, R = bs ++ bigTo z m k := ⟨_, rfl⟩
    rw [← hR] at hO
    have hRl : R.length = bs.length + k := by rw [hR, List.length_append, bigTo_len]
    obtain ⟨Av, cv, rfl, -⟩ := hO.out.read (by decide)
    have HR := Lib.hid hR
    have HRL := Lib.hid hRl
    clear hR hRl
    by_cases hlt : k < m
    · have hs0 : (0 : Int) ≤ (m : Int) - 1 - (k : Int) := by omega
      have hs1 : IntKind.i64.wrap ((m : Int) - 1) = (m : Int) - 1 := by rw [IntKind.wrap_i64]; omega
      have hs2 : IntKind.i64.wrap ((m : Int) - 1 - (k : Int)) = (m : Int) - 1 - (k : Int) := by rw [IntKind.wrap_i64]; omega
      have hs3 : IntKind.i64.wrap (8 * ((m : Int) - 1 - (k : Int))) = 8 * ((m : Int) - 1 - (k : Int)) := by rw [IntKind.wrap_i64]; omega
      have hsz := hB.out.size
      go_wp2_with (at_builtin; refine wpList_append_any _ rfl (.tmp 12) (.tmp 21) _ rfl w0.heap.size 5 i0 _ 1 1 Try.underlying25 hi0 hz0 hz1 hz2 rfl (by omega) (.slice Av R.length cv) R.length (R.flatMap flB.enc) rfl (hO.out.alloc _) (wr.heap.size + 1) (some ⟨wr.heap.size, 0, none⟩) 1 1 (flB.enc (byteAt z m k)) rfl (box_reads flB wr #[.int .u8 ((z : Int) / 2 ^ (8 * (m - 1 - k)) % 256)] _ (byteAt z m k) (by rw [← byteAt_int]; rfl)) (flB.one _) (by have := HRL.out; simp only [maxLen]; omega) (by have := HRL.out; omega) (by simp; omega) ?_; intro v1 w1 hown1 hg1 hat1)
      go_roundw
      case rel => exact ⟨k + 1, by omega, by go_num, Lib.hid (by rw [bigTo_succ, ← List.append_assoc, ← HR.out]; exact Ow.snoc (f := flB) hown1), Lib.hid ((hB.out.alloc hsz _).grown hg1 (by simp; omega) (hO.out.base_))⟩
      case measure => simp [intOf]; omega
    · have hkm : k = m := by omega
      go_wp2_with fail
      go_ret
      exact ⟨_, rfl, by have := hO.out; rw [HR.out, hkm] at this ⊢; exact this, hB.out⟩
set_option maxHeartbeats 2000000 in
theorem big_calls (z m : Nat) (hz : z < 18446744073709551616) (hm : m ≤ 8) (w : World) :
    Calls Try.prog 35 #[.int .u64 (z : Int), .int .i64 (m : Int)] w fun e w' => ∃ v', e = .returned v' ∧ Ow flB w' w.heap.size 5 v' (bigB z m) ∧ Below w.heap.size w w' := by
  obtain ⟨i0, hi0, hz0, hz1, hz2⟩ := info_parts info_b
  have hs1 : IntKind.i64.wrap ((m : Int) - 1) = (m : Int) - 1 := by rw [IntKind.wrap_i64]; omega
  go_enter Try.func35, Try.ntmps35
  go_wp2_with fail
  clear hs1
  go_loopw [5, 6] (fun v i wr => ∃ k : Nat, k ≤ m ∧ i = .int .i64 ((m : Int) - 1 - (k : Int)) ∧ Hid (Ow flB wr w.heap.size 5 v (bigTo z m k)) ∧ Hid (Below w.heap.size w wr)) (fun _ i _ => (intOf i + 1).toNat)
  case atStart => exact ⟨0, by omega, by simp, Lib.hid (Ow.nil_ _ _ _ _), Lib.hid (Below.refl _ _)⟩
  case round =>
    obtain ⟨k, hk, rfl, hO, hB⟩ := hrel
    obtain ⟨R, hR⟩ : ∃ R, R = bigTo z m k := ⟨_, rfl⟩
    rw [← hR] at hO
    have hRl : R.length = k := by rw [hR, bigTo_len]
    obtain ⟨Av, cv, rfl, -⟩ := hO.out.read (by decide)
    have HR := Lib.hid hR
    have HRL := Lib.hid hRl
    clear hR hRl
    by_cases hlt : k < m
    · have hs0 : (0 : Int) ≤ (m : Int) - 1 - (k : Int) := by omega
      have hs3 : IntKind.i64.wrap (8 * ((m : Int) - 1 - (k : Int))) = 8 * ((m : Int) - 1 - (k : Int)) := by rw [IntKind.wrap_i64]; omega
      have hs4 : IntKind.i64.wrap ((m : Int) - 1 - (k : Int) - 1) = (m : Int) - 1 - ((k + 1 : Nat) : Int) := by rw [IntKind.wrap_i64]; omega
      have hs5 : IntKind.u64.wrap (8 * ((m : Int) - 1 - (k : Int))) = 8 * ((m : Int) - 1 - (k : Int)) := by rw [IntKind.wrap_u64]; omega
      have hsz := hB.out.size
      go_wp2_with (at_builtin; refine wpList_append_any _ rfl (.tmp 13) (.tmp 20) _ rfl w.heap.size 5 i0 _ 1 1 Try.underlying25 hi0 hz0 hz1 hz2 rfl (by omega) (.slice Av R.length cv) R.length (R.flatMap flB.enc) rfl (hO.out.alloc _) (wr.heap.size + 1) (some ⟨wr.heap.size, 0, none⟩) 1 1 (flB.enc (byteAt z m k)) rfl (box_reads flB wr #[.int .u8 ((z : Int) / 2 ^ (8 * (m - 1 - k)) % 256)] _ (byteAt z m k) (by rw [← byteAt_int]; rfl)) (flB.one _) (by have := HRL.out; simp only [maxLen]; omega) (by have := HRL.out; omega) (by simp; omega) ?_; intro v1 w1 hown1 hg1 hat1)
      go_roundw
      case rel => exact ⟨k + 1, by omega, by go_num, Lib.hid (by rw [bigTo_succ, ← HR.out]; exact Ow.snoc (f := flB) hown1), Lib.hid ((hB.out.alloc hsz _).grown hg1 (by simp; omega) (hO.out.base_))⟩
      case measure => simp [intOf]; omega
    · have hkm : k = m := by omega
      have hneg : ¬ (0 : Int) ≤ (m : Int) - 1 - (k : Int) := by omega
      go_wp2_with fail
      go_ret
      exact ⟨_, rfl, by have := hO.out; rw [HR.out, hkm] at this ⊢; exact this, hB.out⟩
end Go.Proofs.Ytodccdfpoocolaa
