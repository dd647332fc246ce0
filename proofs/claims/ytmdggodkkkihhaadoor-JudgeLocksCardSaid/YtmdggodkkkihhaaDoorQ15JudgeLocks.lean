/- Texts put together for a claim. -/
import Derived.Test.YtmdggodkkkihhaaDoorQ14JudgeLocks
import Derived.Lib.AppendZeros
import Derived.BigQuiet
import Derived.Deep.QuietTactic
/- Contracts of slices.Index, Contains, Grow and Concat at Needs. -/
set_option linter.unusedVariables false
set_option linter.unusedSimpArgs false
namespace Go.Proofs.YtmdggodkkkihhaaDoor
open Go.RowKit

theorem eqv_need (x y : Need) : Eqv Tryd.prog 2 78 (.agg #[.int .i64 x.p, .bool x.r]) (.agg #[.int .i64 y.p, .bool y.r]) (decide (x = y)) := by
  have h := eqv_struct (P := Tryd.prog) (t := 78) (xs := #[.int .i64 x.p, .bool x.r]) (ys := #[.int .i64 y.p, .bool y.r]) Tryd.underlying78 (by kernel_rfl)
    (eqf_cons (by decide) (fun _ => by kernel_rfl) (fun _ => by kernel_rfl) (eqv_int (q' := .i64) Tryd.underlying3 x.p y.p) (eqf_cons (by decide) (fun _ => by kernel_rfl) (fun _ => by kernel_rfl) (eqv_bool Tryd.underlying4 x.r y.r) eqf_nil))
  have e : (x.p == y.p && (x.r == y.r && true)) = decide (x = y) := by
    obtain ⟨a, b⟩ := x
    obtain ⟨c, d⟩ := y
    rw [Bool.eq_iff_iff]
    simp
  rw [e] at h
  exact h
theorem info_need : (Tryd.prog.info? 78).map (fun i => (i.zero, i.size, i.bytes)) = some (some (.agg #[.int .i64 0, .bool false]), 2, 16) := by kernel_rfl
set_option maxRecDepth 20000 in
set_option maxHeartbeats 2000000 in
theorem IXN_calls (w : World) (A : Option Addr) (n c : Nat) (xs : List Need) (hA : Sl flN w A n c xs) (v : Need) :
    Calls Tryd.prog 71 #[.slice A n c, .agg #[.int .i64 v.p, .bool v.r]] w fun e w' => e = .returned (.int .i64 (idxF (fun x => decide (v = x)) xs)) ∧ Below w.heap.size w w' := by
  have HL := Lib.hid hA.len
  have HA := Lib.hid hA
  have hn := hA.rf.2.1
  clear hA
  go_enter Tryd.func71, Tryd.ntmps71
  go_wp2_with fail
  have hBN := Blk.new w #[.int .i64 v.p, .bool v.r] 78 (0, 0)
  have b0 := hBN.cell 0
  have b1 := hBN.cell 1
  simp only [List.getElem?_toArray, List.getElem?_cons_zero, List.getElem?_cons_succ] at b0 b1
  have hw0 := below_new w (.cells #[.int .i64 v.p, .bool v.r] 78)
  have hsz : (w.alloc (.cells #[.int .i64 v.p, .bool v.r] 78)).heap.size = w.heap.size + 1 := by simp
  generalize (w.alloc (.cells #[.int .i64 v.p, .bool v.r] 78)) = w0 at *
  clear hBN
  have HA := Lib.hid (HA.out.stay hw0)
  go_loopw [8] (fun i wr => ∃ k : Nat, k ≤ n ∧ i = .int .i64 k ∧ Hid (Below w0.heap.size w0 wr ∧ ∀ j y, j < k → xs[j]? = some y → decide (v = y) = false)) (fun i _ => n - (intOf i).toNat)
  case atStart => exact ⟨0, by omega, rfl, Lib.hid ⟨Below.refl _ _, fun j y hj => absurd hj (by omega)⟩⟩
  case round =>
    obtain ⟨k, hk, rfl, hr⟩ := hrel
    by_cases hlt : k < n
    · obtain ⟨b, off, x, rfl, hx, c0, c1⟩ := HA.out.need hlt
      have c0 := cell_stay hr.out.1 c0
      have c1 := cell_stay hr.out.1 c1
      have d0 := cell_stay hr.out.1 b0
      have d1 := cell_stay hr.out.1 b1
      have HX := Lib.hid hx
      have hq := run_eql_of (eqv_need v x) (by omega)
      clear hx b0 b1
      by_cases hxy : v = x
      · rw [decide_eq_true hxy] at hq
        have HF := Lib.hid (idxF_at (p := fun x => decide (v = x)) HX.out (decide_eq_true hxy) hr.out.2)
        clear hxy
        go_wp2_with fail
        go_quiet (fail)
        go_wp2_with fail
        go_ret
        exact ⟨ret_int (by rw [HF.out]), below_more hw0 (below_drawn hr.out.1 _)⟩
      · rw [decide_eq_false hxy] at hq
        have HN := Lib.hid (none_step (p := fun x => decide (v = x)) hr.out.2 HX.out (decide_eq_false hxy))
        clear hxy
        go_wp2_with fail
        go_quiet (fail)
        go_wp2_with fail
        go_roundw
        case rel => exact ⟨k + 1, by omega, by go_num, Lib.hid ⟨below_drawn hr.out.1 _, HN.out⟩⟩
        case measure => simp [intOf]; omega
    · obtain rfl : n = k := by omega
      have HF := Lib.hid (idxF_none (p := fun x => decide (v = x)) (fun j y hj hy => hr.out.2 j y (by have := HL.out; omega) hy))
      clear hlt
      go_wp2_with fail
      go_ret
      exact ⟨ret_int (by rw [HF.out]), below_more hw0 hr.out.1⟩
theorem CTN_calls (w : World) (A : Option Addr) (n c : Nat) (xs : List Need) (hA : Sl flN w A n c xs) (v : Need) :
    Calls Tryd.prog 63 #[.slice A n c, .agg #[.int .i64 v.p, .bool v.r]] w fun e w' => e = .returned (.bool (xs.any fun x => decide (v = x))) ∧ Below w.heap.size w w' := by
  have hw0 := below_new w (.cells #[.int .i64 v.p, .bool v.r] 78)
  have K := Lib.hid (IXN_calls (w.alloc (.cells #[.int .i64 v.p, .bool v.r] 78)) A n c xs (hA.stay hw0) v)
  have HF := Lib.hid (any_idx (fun x => decide (v = x)) xs)
  clear hA
  generalize idxF (fun x => decide (v = x)) xs = z at *
  go_enter Tryd.func63, Tryd.ntmps63
  go_wp2_with (refine K.out.mono ?_; rintro e w1 ⟨rfl, hb⟩)
  go_ret
  exact ⟨ret_bool (by rw [← HF.out]), below_more hw0 hb⟩
theorem zeros_row (w : World) (n : Nat) (hn : n ≤ 17592186044416) (e : TypeId) : Ow flN (w.drew.alloc (.cells (Builtin.zeroCells (Value.agg #[.int .i64 0, .bool false]).cells n ++ Builtin.zeroCells (Value.agg #[.int .i64 0, .bool false]).cells (grownCap w n 0 e - n)) e)) w.heap.size e (.slice (some ⟨w.heap.size, 0, none⟩) 0 (grownCap w n 0 e)) [] := by
  have h1 := grownCap_ge w n 0 e
  have h2 := grownCap_le_maxLen w n 0 e (by simp only [maxLen]; omega)
  refine ⟨rfl, .inr ⟨w.heap.size, _, _, rfl, Nat.le_refl _, heap_alloc_new w.drew _, Nat.zero_le _, h2, ?_, by simp⟩⟩
  simp only [Array.size_append, size_zeroCells, flN]
  have h3 : (Value.agg #[.int .i64 0, .bool false]).cells.size = 2 := rfl
  rw [h3, ← Nat.add_mul]
  congr 1
  omega
set_option maxRecDepth 20000 in
set_option maxHeartbeats 2000000 in
theorem Grow_calls (w : World) (n : Nat) (hn : n ≤ 17592186044416) :
    Calls Tryd.prog 72 #[.slice none 0 0, .int .i64 n] w fun e w' => ∃ v, e = .returned v ∧ Ow flN w' w.heap.size 78 v [] ∧ Below w.heap.size w w' := by
  obtain ⟨i0, hi0, hz0, hz1, hz2⟩ := info_parts info_need
  by_cases h0 : n = 0
  · subst h0
    go_enter Tryd.func72, Tryd.ntmps72
    go_wp2_with fail
    go_ret
    exact ⟨_, rfl, Ow.nil_ _ _ _ _, Below.refl _ _⟩
  · have hpos : 0 < n := by omega
    have HZ := Lib.hid (zeros_row w n hn 78)
    have HR := Lib.hid (Lib.run_append_nil_zeros (P := Tryd.prog) w 60 3 60 78 i0 _ .i64 .i64 Tryd.underlying60 Tryd.underlying3 hi0 hz0 n hpos (by omega) (by omega) (by rw [hz2]; omega))
    have h1 : decide ((0 : Int) < n) = true := decide_eq_true (by omega)
    have h1' : decide ((n : Int) < 0) = false := decide_eq_false (by omega)
    have hle : n ≤ grownCap w n 0 78 := grownCap_ge w n 0 78
    clear h0
    go_enter Tryd.func72, Tryd.ntmps72
    go_wp2_with (at_builtin; refine Lib.wpList_append_run _ rfl (.tmp 20) (.tmp 21) _ _ rfl _ _ rfl rfl _ _ HR.out ?_)
    go_ret
    exact ⟨_, rfl, HZ.out, (below_drawn (Below.refl _ w) 1).alloc (Nat.le_refl _) _⟩
end Go.Proofs.YtmdggodkkkihhaaDoor

/- Contracts of slices.Concat of two rows of Needs, and of table.Needs. -/
set_option linter.unusedVariables false
set_option linter.unusedSimpArgs false
namespace Go.Proofs.YtmdggodkkkihhaaDoor
open Go.RowKit

set_option maxRecDepth 20000 in
set_option maxHeartbeats 2000000 in
theorem Cat_calls (w : World) (g : Nat) (Q F : Option Addr) (q qc f fc : Nat) (qs fs : List Need) (hQ : Sl flN w Q q qc qs) (hF : Sl flN w F f fc fs)
    (h0 : w.cell? ⟨g, 0, none⟩ = some (.slice Q q qc)) (h1 : w.cell? ⟨g, 1, none⟩ = some (.slice F f fc)) (hn : q + f ≤ 8796093022208) :
    Calls Tryd.prog 66 #[.slice (some ⟨g, 0, none⟩) 2 2] w fun e w' => ∃ v, e = .returned v ∧ Ow flN w' w.heap.size 78 v (qs ++ fs) ∧ Below w.heap.size w w' := by
  obtain ⟨i0, hi0, hz0, hz1, hz2⟩ := info_parts info_need
  have HLQ := Lib.hid hQ.len
  have HLF := Lib.hid hF.len
  have HQ := Lib.hid hQ
  have HF := Lib.hid hF
  clear hQ hF
  go_enter Tryd.func66, Tryd.ntmps66
  go_wp2_with fail
  go_loopw [3, 11] (fun s i wr => wr = w ∧ ((i = .int .i64 0 ∧ s = .int .i64 0) ∨ (i = .int .i64 1 ∧ s = .int .i64 q) ∨ (i = .int .i64 2 ∧ s = .int .i64 (q + f)))) (fun _ i _ => 2 - (intOf i).toNat)
  case atStart => exact ⟨rfl, .inl ⟨rfl, rfl⟩⟩
  case round =>
    obtain ⟨hwr, hrel⟩ := hrel
    obtain rfl : w = wr := hwr.symm
    obtain ⟨rfl, rfl⟩ | ⟨rfl, rfl⟩ | ⟨rfl, rfl⟩ := hrel
    · go_wp2_with fail
      go_roundw
      case rel => exact ⟨by first | trivial | rfl, .inr (.inl ⟨by go_num, by go_num⟩)⟩
      case measure => decide
    · go_wp2_with fail
      go_roundw
      case rel => exact ⟨by first | trivial | rfl, .inr (.inr ⟨by go_num, by go_num⟩)⟩
      case measure => decide
    · have K := Lib.hid (Grow_calls w (q + f) (by omega))
      rw [Int.natCast_add] at K
      go_wp2_with (refine K.out.mono ?_; rintro e w1 ⟨v1, rfl, hown, hb⟩)
      have c0 := cell_stay hb h0
      have c1 := cell_stay hb h1
      obtain ⟨A1, cc1, rfl⟩ := row_form hown
      have HO := Lib.hid hown
      clear hown
      go_loopw [6, 27] (fun v i w2 => Below w.heap.size w w2 ∧ ((i = .int .i64 0 ∧ Ow flN w2 w.heap.size 78 v []) ∨ (i = .int .i64 1 ∧ Ow flN w2 w.heap.size 78 v qs) ∨ (i = .int .i64 2 ∧ Ow flN w2 w.heap.size 78 v (qs ++ fs)))) (fun _ i _ => 2 - (intOf i).toNat)
      case atStart => exact ⟨hb, .inl ⟨rfl, HO.out⟩⟩
      case round =>
        obtain ⟨hb2, ⟨rfl, hown⟩ | ⟨rfl, hown⟩ | ⟨rfl, hown⟩⟩ := hrel
        · have c0 := cell_stay hb2 h0
          have HO := Lib.hid hown
          have HB := Lib.hid hb2
          clear hown hb2
          go_wp2_with (at_builtin; refine wpList_append_any _ rfl (.tmp 31) (.tmp 32) _ rfl w.heap.size 78 i0 _ 2 16 Tryd.underlying60 hi0 hz0 hz1 hz2 rfl (by omega) _ 0 [] rfl HO.out _ Q q qc (qs.flatMap flN.enc) rfl ((HQ.out.stay HB.out).rf.reads (by decide)) (flat_one flN qs) (by simp only [maxLen]; omega) (by omega) (by have := HB.out.size; omega) ?_; intro v3 w3 hown3 hg3 hat3)
          go_roundw
          case rel => refine ⟨_, _, _, _, _, _, _, _, _, _, ?_, rfl⟩; exact ⟨HB.out.grown hg3 HB.out.size HO.out.base_, .inr (.inl ⟨by go_num, by have := Ow.join (f := flN) (xs := []) (ys := qs) (m := q) HLQ.out hown3; simpa using this⟩)⟩
          case measure => simp [intOf]
        · have c1 := cell_stay hb2 h1
          have HO := Lib.hid hown
          have HB := Lib.hid hb2
          clear hown hb2
          go_wp2_with (at_builtin; refine wpList_append_any _ rfl (.tmp 31) (.tmp 32) _ rfl w.heap.size 78 i0 _ 2 16 Tryd.underlying60 hi0 hz0 hz1 hz2 rfl (by omega) _ qs.length (qs.flatMap flN.enc) rfl HO.out _ F f fc (fs.flatMap flN.enc) rfl ((HF.out.stay HB.out).rf.reads (by decide)) (flat_one flN fs) (by have := HLQ.out; simp only [maxLen]; omega) (by have := HLQ.out; omega) (by have := HB.out.size; omega) ?_; intro v3 w3 hown3 hg3 hat3)
          go_roundw
          case rel => refine ⟨_, _, _, _, _, _, _, _, _, _, ?_, rfl⟩; exact ⟨HB.out.grown hg3 HB.out.size HO.out.base_, .inr (.inr ⟨by go_num, Ow.join (f := flN) (xs := qs) (ys := fs) (m := f) HLF.out hown3⟩)⟩
          case measure => simp [intOf]
        · go_wp2_with fail
          go_ret
          exact ⟨_, rfl, hown, hb2⟩
end Go.Proofs.YtmdggodkkkihhaaDoor
