/- Contracts of slices.Index, Contains, Grow and Concat at Needs. -/
import Derived.Test.YtmdggodkkkihhaaLyIx
import Derived.Lib.AppendZeros
import Derived.BigQuiet
import Derived.Deep.QuietTactic
set_option linter.unusedVariables false
namespace Go.Proofs.Ytmdggodkkkihhaa
open Go.RowKit

theorem eqv_need (x y : Need) : Eqv Try.prog 2 54 (.agg #[.int .i64 x.p, .bool x.r]) (.agg #[.int .i64 y.p, .bool y.r]) (decide (x = y)) := by
  have h := eqv_struct (P := Try.prog) (t := 54) (xs := #[.int .i64 x.p, .bool x.r]) (ys := #[.int .i64 y.p, .bool y.r]) Try.underlying54 (by kernel_rfl)
    (eqf_cons (by decide) (fun _ => by kernel_rfl) (fun _ => by kernel_rfl) (eqv_int (q' := .i64) Try.underlying3 x.p y.p) (eqf_cons (by decide) (fun _ => by kernel_rfl) (fun _ => by kernel_rfl) (eqv_bool Try.underlying4 x.r y.r) eqf_nil))
  have e : (x.p == y.p && (x.r == y.r && true)) = decide (x = y) := by
    obtain ⟨a, b⟩ := x
    obtain ⟨c, d⟩ := y
    rw [Bool.eq_iff_iff]
    simp
  rw [e] at h
  exact h
theorem info_need : (Try.prog.info? 54).map (fun i => (i.zero, i.size, i.bytes)) = some (some (.agg #[.int .i64 0, .bool false]), 2, 16) := by kernel_rfl
set_option maxHeartbeats 2000000 in
theorem IXN_calls (w : World) (A : Option Addr) (n c : Nat) (xs : List Need) (hA : Sl flN w A n c xs) (v : Need) :
    Calls Try.prog 42 #[.slice A n c, .agg #[.int .i64 v.p, .bool v.r]] w fun e w' => e = .returned (.int .i64 (idxF (fun x => decide (v = x)) xs)) ∧ Below w.heap.size w w' := by
  have HL := Lib.hid hA.len
  have HA := Lib.hid hA
  have hn := hA.rf.2.1
  clear hA
  go_enter Try.func42, Try.ntmps42
  go_wp2_with fail
  have hBN := Blk.new w #[.int .i64 v.p, .bool v.r] 54 (0, 0)
  have b0 := hBN.cell 0
  have b1 := hBN.cell 1
  simp only [List.getElem?_toArray, List.getElem?_cons_zero, List.getElem?_cons_succ] at b0 b1
  have hw0 := below_new w (.cells #[.int .i64 v.p, .bool v.r] 54)
  have hsz : (w.alloc (.cells #[.int .i64 v.p, .bool v.r] 54)).heap.size = w.heap.size + 1 := by simp
  generalize (w.alloc (.cells #[.int .i64 v.p, .bool v.r] 54)) = w0 at *
  clear hBN
  have HA := Lib.hid (HA.out.stay hw0)
  go_loopw [8] (fun i wr => ∃ k : Nat, k ≤ n ∧ i = .int .i64 k ∧ Hid (Below w0.heap.size w0 wr ∧ ∀ j y, j < k → xs[j]? = some y → decide (v = y) = false)) (fun i _ => n - (intOf i).toNat)
  case atStart => exact ⟨0, by omega, rfl, Lib.hid ⟨Below.refl _ _, fun j y hj => absurd hj (by omega)⟩⟩
  case round =>
    obtain ⟨k, hk, rfl, hr⟩ := hrel
    by_cases hlt : k < n
    · obtain ⟨b, off, x, rfl, hx, c0, c1⟩ := HA.out.need hlt
      have c0 := cell_stay hr.out.1 c0
      have c1 := cell_stay hr.out.1 c1
      have d0 := cell_stay hr.out.1 b0
      have d1 := cell_stay hr.out.1 b1
      have HX := Lib.hid hx
      have hq := run_eql_of (eqv_need v x) (by omega)
      clear hx b0 b1
      by_cases hxy : v = x
      · rw [decide_eq_true hxy] at hq
        have HF := Lib.hid (idxF_at (p := fun x => decide (v = x)) HX.out (decide_eq_true hxy) hr.out.2)
        clear hxy
        go_wp2_with fail
        go_quiet (fail)
        go_wp2_with fail
        go_ret
        exact ⟨ret_int (by rw [HF.out]), below_more hw0 (below_drawn hr.out.1 _)⟩
      · rw [decide_eq_false hxy] at hq
        have HN := Lib.hid (none_step (p := fun x => decide (v = x)) hr.out.2 HX.out (decide_eq_false hxy))
        clear hxy
        go_wp2_with fail
        go_quiet (fail)
        go_wp2_with fail
        go_roundw
        case rel => exact ⟨k + 1, by omega, by go_num, Lib.hid ⟨below_drawn hr.out.1 _, HN.out⟩⟩
        case measure => simp [intOf]; omega
    · obtain rfl : n = k := by omega
      have HF := Lib.hid (idxF_none (p := fun x => decide (v = x)) (fun j y hj hy => hr.out.2 j y (by have := HL.out; omega) hy))
      clear hlt
      go_wp2_with fail
      go_ret
      exact ⟨ret_int (by rw [HF.out]), below_more hw0 hr.out.1⟩
theorem CTN_calls (w : World) (A : Option Addr) (n c : Nat) (xs : List Need) (hA : Sl flN w A n c xs) (v : Need) :
    Calls Try.prog 36 #[.slice A n c, .agg #[.int .i64 v.p, .bool v.r]] w fun e w' => e = .returned (.bool (xs.any fun x => decide (v = x))) ∧ Below w.heap.size w w' := by
  have hw0 := below_new w (.cells #[.int .i64 v.p, .bool v.r] 54)
  have K := Lib.hid (IXN_calls (w.alloc (.cells #[.int .i64 v.p, .bool v.r] 54)) A n c xs (hA.stay hw0) v)
  have HF := Lib.hid (any_idx (fun x => decide (v = x)) xs)
  clear hA
  generalize idxF (fun x => decide (v = x)) xs = z at *
  go_enter Try.func36, Try.ntmps36
  go_wp2_with (refine K.out.mono ?_; rintro e w1 ⟨rfl, hb⟩)
  go_ret
  exact ⟨ret_bool (by rw [← HF.out]), below_more hw0 hb⟩
theorem zeros_row (w : World) (n : Nat) (hn : n ≤ 17592186044416) (e : TypeId) : Ow flN (w.drew.alloc (.cells (Builtin.zeroCells (Value.agg #[.int .i64 0, .bool false]).cells n ++ Builtin.zeroCells (Value.agg #[.int .i64 0, .bool false]).cells (grownCap w n 0 e - n)) e)) w.heap.size e (.slice (some ⟨w.heap.size, 0, none⟩) 0 (grownCap w n 0 e)) [] := by
  have h1 := grownCap_ge w n 0 e
  have h2 := grownCap_le_maxLen w n 0 e (by simp only [maxLen]; omega)
  refine ⟨rfl, .inr ⟨w.heap.size, _, _, rfl, Nat.le_refl _, heap_alloc_new w.drew _, Nat.zero_le _, h2, ?_, by simp⟩⟩
  simp only [Array.size_append, size_zeroCells, flN]
  have h3 : (Value.agg #[.int .i64 0, .bool false]).cells.size = 2 := rfl
  rw [h3, ← Nat.add_mul]
  congr 1
  omega
set_option maxHeartbeats 2000000 in
theorem Grow_calls (w : World) (n : Nat) (hn : n ≤ 17592186044416) :
    Calls Try.prog 43 #[.slice none 0 0, .int .i64 n] w fun e w' => ∃ v, e = .returned v ∧ Ow flN w' w.heap.size 54 v [] ∧ Below w.heap.size w w' := by
  obtain ⟨i0, hi0, hz0, hz1, hz2⟩ := info_parts info_need
  by_cases h0 : n = 0
  · subst h0
    go_enter Try.func43, Try.ntmps43
    go_wp2_with fail
    go_ret
    exact ⟨_, rfl, Ow.nil_ _ _ _ _, Below.refl _ _⟩
  · have hpos : 0 < n := by omega
    have HZ := Lib.hid (zeros_row w n hn 54)
    have HR := Lib.hid (Lib.run_append_nil_zeros (P := Try.prog) w 45 3 45 54 i0 _ .i64 .i64 Try.underlying45 Try.underlying3 hi0 hz0 n hpos (by omega) (by omega) (by rw [hz2]; omega))
    have h1 : decide ((0 : Int) < n) = true := decide_eq_true (by omega)
    have h1' : decide ((n : Int) < 0) = false := decide_eq_false (by omega)
    have hle : n ≤ grownCap w n 0 54 := grownCap_ge w n 0 54
    clear h0
    go_enter Try.func43, Try.ntmps43
    go_wp2_with (at_builtin; refine Lib.wpList_append_run _ rfl (.tmp 20) (.tmp 21) _ _ rfl _ _ rfl rfl _ _ HR.out ?_)
    go_ret
    exact ⟨_, rfl, HZ.out, (below_drawn (Below.refl _ w) 1).alloc (Nat.le_refl _) _⟩
end Go.Proofs.Ytmdggodkkkihhaa
