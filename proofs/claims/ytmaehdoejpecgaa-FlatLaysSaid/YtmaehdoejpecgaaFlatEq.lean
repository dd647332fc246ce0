/- Walks of Ints and changes: are two rows one? -/
import Derived.Test.YtmaehdoejpecgaaFlatDiff
set_option linter.unusedVariables false
namespace Go.Proofs.Ytmaehdoejpecgaa
open Go.ChangeShapes Go.WideShapes Go.ChangeAt Go.RowKit

theorem rfI_at {w : World} {A : Option Addr} {n : Nat} {xs : List Int} (h : Rf flI w A n xs) {j : Nat} (hj : j < n) : ∃ b off x, A = some ⟨b, off, none⟩ ∧ xs[j]? = some x ∧ w.cell? ⟨b, off + j, none⟩ = some (.int .i64 x) := by
  obtain ⟨b, off, x, rfl, hx, hc⟩ := h.at_ hj
  refine ⟨b, off, x, rfl, hx, ?_⟩
  have := hc 0 _ rfl
  simpa [flI] using this
theorem rfC_at {w : World} {A : Option Addr} {n : Nat} {xs : List Chg} (h : Rf flC w A n xs) {j : Nat} (hj : j < n) : ∃ b off x, A = some ⟨b, off, none⟩ ∧ xs[j]? = some x ∧ w.cell? ⟨b, off + j * 2, none⟩ = some (.int .i64 x.at_) ∧ w.cell? ⟨b, off + j * 2 + 1, none⟩ = some (.int .i64 x.num) := by
  obtain ⟨b, off, x, rfl, hx, hc⟩ := h.at_ hj
  exact ⟨b, off, x, rfl, hx, by have := hc 0 _ rfl; simpa [flC] using this, by have := hc 1 _ rfl; simpa [flC] using this⟩

set_option maxHeartbeats 1000000 in
theorem Ints_calls (A B : Option Addr) (n m c d : Nat) (xs ys : List Int) (w : World) (hA : Rf flI w A n xs) (hB : Rf flI w B m ys) :
    Calls Try.prog 17 #[.slice A n c, .slice B m d] w fun e w' => e = .returned (.bool (decide (xs = ys))) ∧ Below w.heap.size w w' := by
  have h1 := hA.1
  have h2 := hB.1
  have hn := hA.2.1
  by_cases hne : n = m
  · have hb : ((n : Int) != (m : Int)) = false := by simp [hne]
    have HN := Lib.hid hne
    have H1 := Lib.hid h1
    have H2 := Lib.hid h2
    clear hne h1 h2
    go_enter Try.func17, Try.ntmps17
    go_wp2_with fail
    go_loopw [5] (fun i wr => ∃ k : Nat, k ≤ n ∧ i = .int .i64 k ∧ Hid (xs.take k = ys.take k) ∧ Below w.heap.size w wr) (fun i _ => n - (intOf i).toNat)
    case atStart => exact ⟨0, by omega, rfl, Lib.hid rfl, Below.refl _ _⟩
    case round =>
      obtain ⟨k, hk, rfl, hr, hbr⟩ := hrel
      by_cases hlt : k < n
      · obtain ⟨ba, oa, x, rfl, hx, ca0⟩ := rfI_at hA hlt
        obtain ⟨bb, ob, y, rfl, hy, cb0⟩ := rfI_at hB (j := k) (by have := HN.out; omega)
        have ca := cell_keep hbr (cell_lt ca0) ca0
        have cb := cell_keep hbr (cell_lt cb0) cb0
        have HX := Lib.hid hx
        have HY := Lib.hid hy
        clear ca0 cb0 hx hy
        have hkm : (k : Int) < m := by have := HN.out; omega
        by_cases hxy : x = y
        · have hxy2 : (x != y) = false := by simp [hxy]
          have HXY := Lib.hid hxy
          clear hxy
          go_wp2_with fail
          go_quiet (fail)
          go_wp2_with fail
          go_roundw
          case rel => exact ⟨k + 1, by omega, by go_num, Lib.hid (take_eq_step HX.out HY.out hr.out HXY.out), below_drawn hbr _⟩
          case measure => simp [intOf]; omega
        · have hxy2 : (x != y) = true := by simp [hxy]
          have HXY := Lib.hid hxy
          clear hxy
          go_wp2_with fail
          go_quiet (fail)
          go_wp2_with fail
          go_ret
          exact ⟨by rw [decide_eq_false (ne_of_at HX.out HY.out HXY.out)]; rfl, below_drawn hbr _⟩
      · have hkn : k = n := by omega
        have hfin : xs = ys := by
          have := hr.out
          rw [hkn, List.take_of_length_le (by have := H1.out; omega), List.take_of_length_le (by have := H2.out; have := HN.out; omega)] at this
          exact this
        have HF := Lib.hid hfin
        clear hkn hfin
        go_wp2_with fail
        go_ret
        exact ⟨by rw [decide_eq_true HF.out]; rfl, hbr⟩
  · have hb : ((n : Int) != (m : Int)) = true := by simp; omega
    have hll : ¬ xs = ys := by rintro rfl; omega
    have H3 := Lib.hid hll
    clear h1 h2 hll
    go_enter Try.func17, Try.ntmps17
    go_wp2_with fail
    go_ret
    exact ⟨by rw [decide_eq_false H3.out]; rfl, Below.refl _ _⟩

set_option maxHeartbeats 1000000 in
theorem changes_calls (A B : Option Addr) (n m c d : Nat) (xs ys : List Chg) (w : World) (hA : Rf flC w A n xs) (hB : Rf flC w B m ys) :
    Calls Try.prog 15 #[.slice A n c, .slice B m d] w fun e w' => e = .returned (.bool (decide (xs = ys))) ∧ Below w.heap.size w w' := by
  have h1 := hA.1
  have h2 := hB.1
  have hn := hA.2.1
  by_cases hne : n = m
  · have hb : ((n : Int) != (m : Int)) = false := by simp [hne]
    have HN := Lib.hid hne
    have H1 := Lib.hid h1
    have H2 := Lib.hid h2
    clear hne h1 h2
    go_enter Try.func15, Try.ntmps15
    go_wp2_with fail
    go_loopw [5] (fun i wr => ∃ k : Nat, k ≤ n ∧ i = .int .i64 k ∧ Hid (xs.take k = ys.take k) ∧ Below w.heap.size w wr) (fun i _ => n - (intOf i).toNat)
    case atStart => exact ⟨0, by omega, rfl, Lib.hid rfl, Below.refl _ _⟩
    case round =>
      obtain ⟨k, hk, rfl, hr, hbr⟩ := hrel
      by_cases hlt : k < n
      · obtain ⟨ba, oa, x, rfl, hx, ca0, ca1⟩ := rfC_at hA hlt
        obtain ⟨bb, ob, y, rfl, hy, cb0, cb1⟩ := rfC_at hB (j := k) (by have := HN.out; omega)
        have ca := cell_keep hbr (cell_lt ca0) ca0
        have cb := cell_keep hbr (cell_lt cb0) cb0
        have ca' := cell_keep hbr (cell_lt ca1) ca1
        have cb' := cell_keep hbr (cell_lt cb1) cb1
        have HX := Lib.hid hx
        have HY := Lib.hid hy
        clear ca0 cb0 ca1 cb1 hx hy
        have hkm : (k : Int) < m := by have := HN.out; omega
        have hq := run_neq_of (eqv_chg x y) (by omega)
        by_cases hxy : x = y
        · rw [decide_eq_true hxy] at hq
          have HXY := Lib.hid hxy
          clear hxy
          go_wp2_with fail
          go_quiet (fail)
          go_wp2_with fail
          go_roundw
          case rel => exact ⟨k + 1, by omega, by go_num, Lib.hid (take_eq_step HX.out HY.out hr.out HXY.out), below_drawn hbr _⟩
          case measure => simp [intOf]; omega
        · rw [decide_eq_false hxy] at hq
          have HXY := Lib.hid hxy
          clear hxy
          go_wp2_with fail
          go_quiet (fail)
          go_wp2_with fail
          go_ret
          exact ⟨by rw [decide_eq_false (ne_of_at HX.out HY.out HXY.out)]; rfl, below_drawn hbr _⟩
      · have hkn : k = n := by omega
        have hfin : xs = ys := by
          have := hr.out
          rw [hkn, List.take_of_length_le (by have := H1.out; omega), List.take_of_length_le (by have := H2.out; have := HN.out; omega)] at this
          exact this
        have HF := Lib.hid hfin
        clear hkn hfin
        go_wp2_with fail
        go_ret
        exact ⟨by rw [decide_eq_true HF.out]; rfl, hbr⟩
  · have hb : ((n : Int) != (m : Int)) = true := by simp; omega
    have hll : ¬ xs = ys := by rintro rfl; omega
    have H3 := Lib.hid hll
    clear h1 h2 hll
    go_enter Try.func15, Try.ntmps15
    go_wp2_with fail
    go_ret
    exact ⟨by rw [decide_eq_false H3.out]; rfl, Below.refl _ _⟩
end Go.Proofs.Ytmaehdoejpecgaa
