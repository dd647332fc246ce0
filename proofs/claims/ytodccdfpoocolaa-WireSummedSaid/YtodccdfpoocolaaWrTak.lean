/- wire.taken. -/
import Derived.Test.YtodccdfpoocolaaWrKn
import Derived.Laws.Bits64b
set_option linter.unusedVariables false
namespace Go.Proofs.Ytodccdfpoocolaa
open Go.RowKit Go.Lib

def numB (xs : List Nat) : Nat := xs.foldl (fun z x => z * 256 + x) 0
theorem numB_snoc (xs : List Nat) (x : Nat) : numB (xs ++ [x]) = numB xs * 256 + x := by unfold numB; rw [List.foldl_append]; rfl
theorem numB_take {xs : List Nat} {k x : Nat} (hx : xs[k]? = some x) : numB (xs.take (k + 1)) = numB (xs.take k) * 256 + x := by
  rw [List.take_add_one, hx]
  exact numB_snoc _ _
theorem numB_lt {xs : List Nat} (h : ∀ x ∈ xs, x < 256) : ∀ k, numB (xs.take k) < 256 ^ k
  | 0 => by simp [numB]
  | k + 1 => by
    have ih := numB_lt h k
    by_cases hk : k < xs.length
    · have hx : xs[k]? = some xs[k] := List.getElem?_eq_getElem hk
      rw [numB_take hx, Nat.pow_succ]
      have := h xs[k] (List.getElem_mem hk)
      omega
    · rw [List.take_of_length_le (by omega)]
      rw [List.take_of_length_le (by omega)] at ih
      rw [Nat.pow_succ]
      omega
/-- Where what is behind stands. -/
def cutA (A : Option Addr) (c n : Nat) : Option Addr := if c = n then A else A.map fun a => ⟨a.block, a.off + n, none⟩
theorem Rf.cutB {w : World} {A : Option Addr} {len c : Nat} {xs : List Nat} (h : Rf flB w A len xs) (n : Nat) (hn : n ≤ len) (hc : len ≤ c) : Rf flB w (cutA A c n) (len - n) (xs.drop n) := by
  obtain ⟨h1, h2, h3⟩ := h
  refine ⟨by rw [List.length_drop, h1], by omega, fun hp => ?_⟩
  obtain ⟨b, off, e, hcell⟩ := h3 (by omega)
  subst e
  refine ⟨b, off + n, by unfold cutA; rw [if_neg (by omega)]; rfl, fun j x hx i v hv => ?_⟩
  have := hcell (n + j) x (by rw [List.getElem?_drop] at hx; exact hx) i v hv
  have e2 : off + n + j * flB.sz + i = off + (n + j) * flB.sz + i := by show off + n + j * 1 + i = off + (n + j) * 1 + i; omega
  rw [e2]
  exact this
theorem or_step (z x : Nat) (hz : z * 256 < 18446744073709551616) (hx : x < 256) : bits .or .u64 (IntKind.u64.wrap ((z : Int) * 256)) (x : Int) = ((z * 256 + x : Nat) : Int) := by
  have e : IntKind.u64.wrap ((z : Int) * 256) = ((z * 256 : Nat) : Int) := by rw [IntKind.wrap_u64]; omega
  have h2 := Nat.shiftLeft_add_eq_or_of_lt (i := 8) (b := x) (by simpa using hx) z
  rw [Nat.shiftLeft_eq] at h2
  rw [e, bits_or_u64_nat _ _ hz (by omega), ← h2]
theorem pow_fits {z k : Nat} (h : z < 256 ^ k) (hk : k ≤ 7) : z * 256 < 18446744073709551616 := by
  have h1 : 256 ^ k ≤ 256 ^ 7 := Nat.pow_le_pow_right (by decide) hk
  have h2 : (256 : Nat) ^ 7 = 72057594037927936 := by decide
  omega
set_option maxHeartbeats 4000000 in
theorem taken_calls (w : World) (A : Option Addr) (len c : Nat) (xs : List Nat) (h : Rf flB w A len xs) (hx : ∀ x ∈ xs, x < 256) (hc : len ≤ c) (hc2 : c ≤ 9223372036854775807) (n : Nat) (hn : n ≤ 8) (hn1 : 1 ≤ n) :
    Calls Try.prog 36 #[.slice A len c, .int .i64 (n : Int)] w fun e w' =>
      e = .returned (if n ≤ len then .tuple #[.int .u64 (numB (xs.take n) : Nat), .slice (cutA A c n) (len - n) (c - n), .bool true] else .tuple #[.int .u64 0, .slice none 0 0, .bool false]) ∧ Below w.heap.size w w' := by
  by_cases hln : n ≤ len
  · rw [if_pos hln]
    have hnl : ¬ (len : Int) < (n : Int) := by omega
    have hk1 : (n : Int) ≤ (c : Int) := by omega
    have hk2 : (n : Int) ≤ (len : Int) := by omega
    have hk3 : (len : Int) ≤ (c : Int) := by omega
    have hk4 : (0 : Int) ≤ (n : Int) := by omega
    obtain ⟨bl, off, x0, rfl, _, _⟩ := rfB_at h (j := 0) (by omega)
    have H := Lib.hid h
    have HX := Lib.hid hx
    clear h hx hln
    go_enter Try.func36, Try.ntmps36
    go_wp2_with fail
    go_loopw [7, 18] (fun z i wr => ∃ k : Nat, k ≤ n ∧ i = .int .i64 k ∧ z = .int .u64 (numB (xs.take k) : Nat) ∧ wr = w) (fun _ i _ => n - (intOf i).toNat)
    case atStart => exact ⟨0, by omega, rfl, rfl, rfl⟩
    case round =>
      obtain ⟨k, hk, rfl, rfl, rfl⟩ := hrel
      by_cases hlt : k < n
      · obtain ⟨b', off', x, e, hxk, hcell⟩ := rfB_at H.out (j := k) (by omega)
        cases e
        have hxl := HX.out x (List.mem_of_getElem? hxk)
        have hz := numB_lt HX.out k
        have HT := Lib.hid (numB_take hxk)
        generalize numB (xs.take k) = z at *
        clear hxk
        have ho := Lib.hid (or_step z x (pow_fits hz (by omega)) hxl)
        go_wp2_with fail
        go_roundw
        case rel => exact ⟨k + 1, by omega, by go_num, by rw [ho.out, HT.out], trivial⟩
        case measure => simp [intOf]; omega
      · have hkn : k = n := by omega
        subst hkn
        by_cases hcn : c = k
        · have e : cutA (some ⟨bl, off, none⟩) c k = some ⟨bl, off, none⟩ := if_pos hcn
          have hz : c - k = 0 := by omega
          have HE := Lib.hid e
          have HZ := Lib.hid hz
          clear e hz
          go_wp2_with fail
          go_quiet (fail)
          go_wp2_with fail
          refine bodyPost_ret (results_list (rs := [.tmp 4, .tmp 5, .tmp 6]) rfl (by simp) (.tmp (.tmp (.tmp .nil)))) rfl ?_
          exact ⟨by rw [HE.out, HZ.out]; rfl, below_drawn (Below.refl _ _) _⟩
        · have e : cutA (some ⟨bl, off, none⟩) c k = some ⟨bl, off + k, none⟩ := if_neg hcn
          have HE := Lib.hid e
          clear e
          go_wp2_with fail
          go_quiet (fail)
          go_wp2_with fail
          refine bodyPost_ret (results_list (rs := [.tmp 4, .tmp 5, .tmp 6]) rfl (by simp) (.tmp (.tmp (.tmp .nil)))) rfl ?_
          exact ⟨by rw [HE.out]; rfl, below_drawn (Below.refl _ _) _⟩
  · rw [if_neg hln]
    have hnl : (len : Int) < (n : Int) := by omega
    go_enter Try.func36, Try.ntmps36
    go_wp2_with fail
    refine bodyPost_ret (results_list (rs := [.tmp 4, .tmp 5, .tmp 6]) rfl (by simp) (.tmp (.tmp (.tmp .nil)))) rfl ?_
    exact ⟨rfl, Below.refl _ _⟩
end Go.Proofs.Ytodccdfpoocolaa
