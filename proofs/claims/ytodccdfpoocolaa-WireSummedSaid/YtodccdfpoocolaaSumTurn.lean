/- Walk of SumTurned. -/
import Derived.Test.YtodccdfpoocolaaSumKn
import Derived.Test.YtodccdfpoocolaaSumMath
import Derived.Test.YtodccdfpoocolaaWords
import Derived.Outline
namespace Go.Proofs.Ytodccdfpoocolaa
open Go.ChangeShapes Go.WideShapes Go.ChangeAt Go.RowKit

theorem info_u8 : (Try.prog.info? 5).map (fun i => (i.zero, i.size, i.bytes)) = some (some (.int .u8 0), 1, 1) := by kernel_rfl
def vbytes (xs : List Nat) : List Value := xs.map fun (x : Nat) => .int .u8 (x : Int)
theorem RdB.reads {w : World} {A : Option Addr} {n : Nat} {xs : List Nat} (h : RdB w A n xs) : Reads w w.heap.size 1 A n (vbytes xs) := by
  obtain ⟨h1, h2, h3, h4⟩ := h
  refine ⟨by simp [vbytes, h1], fun hn => ?_⟩
  obtain ⟨b, off, e, hc⟩ := h4 hn
  refine ⟨_, e, World.block_lt_of_cell? w _ (hc 0 hn), fun j u hu => ?_⟩
  have hj : j < xs.length := by
    rcases Nat.lt_or_ge j xs.length with h | h
    · exact h
    · simp [vbytes, List.getElem?_eq_none h] at hu
  have e2 : (⟨b, off, none⟩ : Addr).add j = ⟨b, off + j, none⟩ := by unfold Addr.add; split <;> simp_all
  rw [e2, hc j (by omega)]
  simp [vbytes, List.getElem?_eq_getElem hj] at hu
  simp [← hu, List.getD_eq_getElem?_getD, List.getElem?_eq_getElem hj]
theorem vbytes_one (xs : List Nat) : ∀ u ∈ vbytes xs, u.oneCell' = true := by
  intro u hu
  simp [vbytes] at hu
  obtain ⟨x, _, rfl⟩ := hu
  rfl
/-- A row of the call's own, of bytes. -/
theorem own_rdb {w : World} {base g n cap : Nat} {xs : List Nat} (h : w.ownsRow base 5 1 (.slice (some ⟨g, 0, none⟩) n cap) n (vbytes xs)) (hn : n ≤ 9223372036854775807) (hx : ∀ x ∈ xs, x < 256) : RdB w (some ⟨g, 0, none⟩) n xs := by
  have hl : xs.length = n := by have := h.1; simpa [vbytes] using this
  refine ⟨hl, hn, hx, fun _ => ⟨g, 0, rfl, fun j hj => ?_⟩⟩
  rw [Nat.zero_add, h.cellAt j (by omega)]
  simp [vbytes, List.getD_eq_getElem?_getD, List.getElem?_eq_getElem (show j < xs.length by omega)]
theorem vb_at (xs : List Nat) (k : Nat) (hk : k < xs.length) : (vbytes xs)[k]? = some (.int .u8 ((xs.getD k 0 : Nat) : Int)) := by
  simp [vbytes, List.getD_eq_getElem?_getD, List.getElem?_eq_getElem hk]
theorem vb_set (xs : List Nat) (k z : Nat) : (vbytes xs).set k (.int .u8 (z : Int)) = vbytes (xs.set k z) := by simp [vbytes, List.map_set]
theorem mask16 (x : Int) : ∃ m : Nat, bits .and .i64 x 65535 = (m : Int) := by
  refine ⟨(x % 65536).toNat, ?_⟩
  show IntKind.i64.wrap ((BitVec.ofInt 64 x &&& BitVec.ofInt 64 65535).toNat : Int) = _
  rw [BitVec.toNat_and]
  have h1 : (BitVec.ofInt 64 65535).toNat = 65535 := by decide
  have h2 := Nat.and_two_pow_sub_one_eq_mod (BitVec.ofInt 64 x).toNat 16
  have h3 : (BitVec.ofInt 64 x).toNat = (x % 18446744073709551616).toNat := by simp [BitVec.toNat_ofInt]
  rw [h1, h2, IntKind.wrap_i64, h3]
  omega

end Go.Proofs.Ytodccdfpoocolaa
