/- Walks of flat.Diff and of the reference's Diff: both come to 'diff'. -/
import Derived.Test.YtmaehdoejpecgaaFlatDef
set_option linter.unusedVariables false
namespace Go.Proofs.Ytmaehdoejpecgaa
open Go.ChangeShapes Go.WideShapes Go.ChangeAt Go.RowKit

def DiffPost (w : World) (xs ys : List Int) (e : Ending) (w' : World) : Prop :=
  ∃ v, e = .returned (.tuple #[v, .bool (decide (xs.length = ys.length))]) ∧ Ow flC w' w.heap.size 27 v (diff xs ys) ∧ Below w.heap.size w w'

theorem getD_of {l : List Int} {k : Nat} {x : Int} (h : l[k]? = some x) : l.getD k 0 = x := by simp [List.getD_eq_getElem?_getD, h]
theorem rfI_cell {w : World} {A : Option Addr} {n : Nat} {xs : List Int} (h : Rf flI w A n xs) {j : Nat} (hj : j < n) : ∃ b off, A = some ⟨b, off, none⟩ ∧ w.cell? ⟨b, off + j, none⟩ = some (.int .i64 (xs.getD j 0)) := by
  obtain ⟨b, off, x, rfl, hx, hc⟩ := h.at_ hj
  refine ⟨b, off, rfl, ?_⟩
  have := hc 0 _ rfl
  rw [getD_of hx]
  simpa [flI] using this
theorem diff_step (xs ys : List Int) (k : Nat) (x y : Int) (hx : xs.getD k 0 = x) (hy : ys.getD k 0 = y) : (x = y → diffTo xs ys (k + 1) = diffTo xs ys k) ∧ (x ≠ y → diffTo xs ys (k + 1) = diffTo xs ys k ++ [⟨(k : Int), y⟩]) := by
  have e : diffTo xs ys (k + 1) = if xs.getD k 0 = ys.getD k 0 then diffTo xs ys k else diffTo xs ys k ++ [⟨(k : Int), ys.getD k 0⟩] := rfl
  rw [e, hx, hy]
  exact ⟨fun h => if_pos h, fun h => if_neg h⟩

set_option maxHeartbeats 1000000 in
theorem Diff_calls (A B : Option Addr) (n m c d : Nat) (xs ys : List Int) (w : World) (hA : Rf flI w A n xs) (hB : Rf flI w B m ys) (hm : m ≤ 8796093022208) :
    Calls Try.prog 12 #[.slice A n c, .slice B m d] w (DiffPost w xs ys) := by
  obtain ⟨i0, hi0, hz0, hz1, hz2⟩ := info_parts info_chg
  have h1 := hA.1
  have h2 := hB.1
  have hn := hA.2.1
  by_cases hne : n = m
  · have hb : ((n : Int) != (m : Int)) = false := by simp [hne]
    have HN := Lib.hid hne
    have H1 := Lib.hid h1
    have H2 := Lib.hid h2
    have hA1 := hA.1
    clear hne h1 h2 hA1
    go_enter Try.func12, Try.ntmps12
    go_wp2_with fail
    go_loopw [6, 16] (fun v i wr => ∃ k : Nat, k ≤ m ∧ i = .int .i64 k ∧ Ow flC wr w.heap.size 27 v (diffTo xs ys k) ∧ Below w.heap.size w wr) (fun _ i _ => m - (intOf i).toNat)
    case atStart => exact ⟨0, by omega, rfl, Ow.nil_ _ _ _ _, Below.refl _ _⟩
    case round =>
      obtain ⟨k, hk, rfl, hown, hbr⟩ := hrel
      by_cases hlt : k < m
      · obtain ⟨ba, oa, rfl, ca0⟩ := rfI_cell hA (j := k) (by have := HN.out; omega)
        obtain ⟨bb, ob, rfl, cb0⟩ := rfI_cell hB hlt
        have ca := cell_keep hbr (cell_lt ca0) ca0
        have cb := cell_keep hbr (cell_lt cb0) cb0
        have hdl := diffTo_le xs ys k
        have HD := Lib.hid (diff_step xs ys k _ _ rfl rfl)
        clear ca0 cb0
        generalize xs.getD k 0 = x at *
        generalize ys.getD k 0 = y at *
        have HO := Lib.hid hown
        clear hown
        have hkn : (k : Int) < n := by have := HN.out; omega
        by_cases hxy : x = y
        · have hxy2 : (x != y) = false := by simp [hxy]
          have HX := Lib.hid hxy
          clear hxy
          go_wp2_with fail
          go_roundw
          case rel => exact ⟨k + 1, by omega, by go_num, by rw [HD.out.1 HX.out]; exact HO.out, hbr⟩
          case measure => simp [intOf]; omega
        · have hxy2 : (x != y) = true := by simp [hxy]
          have HX := Lib.hid hxy
          clear hxy
          go_wp2_with (at_builtin; refine wpList_append_any _ rfl (.tmp 27) (.tmp 31) _ rfl w.heap.size 27 i0 _ 2 16 Try.underlying23 hi0 hz0 hz1 hz2 rfl (by omega) _ (diffTo xs ys k).length ((diffTo xs ys k).flatMap flC.enc) rfl (HO.out.alloc _) (wr.heap.size + 1) (some ⟨wr.heap.size, 0, none⟩) 1 1 (flC.enc ⟨(k : Int), y⟩) rfl (box_reads flC wr _ _ ⟨(k : Int), y⟩ rfl) (flC.one _) (by simp only [maxLen]; omega) (by omega) (by simp; have := hbr.size; omega) ?_; intro v1 w1 hown1 hg1 hat1)
          go_roundw
          case rel => exact ⟨k + 1, by omega, by go_num, by rw [HD.out.2 HX.out]; exact Ow.snoc hown1, (hbr.alloc hbr.size _).grown hg1 (by simp; have := hbr.size; omega) (HO.out.base_)⟩
          case measure => simp [intOf]; omega
      · have hkm : k = m := by omega
        subst hkm
        go_wp2_with fail
        go_ret2
        have hll : xs.length = ys.length := by rw [H1.out, H2.out, HN.out]
        exact ⟨_, by rw [decide_eq_true hll]; rfl, by unfold diff; rw [if_pos hll, H2.out]; exact hown, hbr⟩
  · have hb : ((n : Int) != (m : Int)) = true := by simp; omega
    have hll : ¬ xs.length = ys.length := by omega
    have H3 := Lib.hid hll
    clear h1 h2 hll
    go_enter Try.func12, Try.ntmps12
    go_wp2_with fail
    go_ret2
    exact ⟨_, by rw [decide_eq_false H3.out]; rfl, by unfold diff; rw [if_neg H3.out]; exact Ow.nil_ _ _ _ _, Below.refl _ _⟩

set_option maxHeartbeats 1000000 in
theorem RefDiff_calls (A B : Option Addr) (n m c d : Nat) (xs ys : List Int) (w : World) (hA : Rf flI w A n xs) (hB : Rf flI w B m ys) (hm : m ≤ 8796093022208) :
    Calls Try.prog 14 #[.slice A n c, .slice B m d] w (DiffPost w xs ys) := by
  obtain ⟨i0, hi0, hz0, hz1, hz2⟩ := info_parts info_chg
  have h1 := hA.1
  have h2 := hB.1
  have hn := hA.2.1
  by_cases hne : n = m
  · have hb : ((n : Int) != (m : Int)) = false := by simp [hne]
    have HN := Lib.hid hne
    have H1 := Lib.hid h1
    have H2 := Lib.hid h2
    clear hne h1 h2
    go_enter Try.func14, Try.ntmps14
    go_wp2_with fail
    go_loopw [6, 7] (fun v i wr => ∃ k : Nat, k ≤ n ∧ i = .int .i64 k ∧ Ow flC wr w.heap.size 27 v (diffTo xs ys k) ∧ Below w.heap.size w wr) (fun _ i _ => n - (intOf i).toNat)
    case atStart => exact ⟨0, by omega, rfl, Ow.nil_ _ _ _ _, Below.refl _ _⟩
    case round =>
      obtain ⟨k, hk, rfl, hown, hbr⟩ := hrel
      by_cases hlt : k < n
      · obtain ⟨ba, oa, rfl, ca0⟩ := rfI_cell hA hlt
        obtain ⟨bb, ob, rfl, cb0⟩ := rfI_cell hB (j := k) (by have := HN.out; omega)
        have ca := cell_keep hbr (cell_lt ca0) ca0
        have cb := cell_keep hbr (cell_lt cb0) cb0
        have hdl := diffTo_le xs ys k
        have HD := Lib.hid (diff_step xs ys k _ _ rfl rfl)
        clear ca0 cb0
        generalize xs.getD k 0 = x at *
        generalize ys.getD k 0 = y at *
        have HO := Lib.hid hown
        clear hown
        have hkm : (k : Int) < m := by have := HN.out; omega
        by_cases hxy : x = y
        · have hxy2 : (x != y) = false := by simp [hxy]
          have HX := Lib.hid hxy
          clear hxy
          go_wp2_with fail
          go_quiet (fail)
          go_wp2_with fail
          go_roundw
          case rel => exact ⟨k + 1, by omega, by go_num, by rw [HD.out.1 HX.out]; exact HO.out.drewN _, below_drawn hbr _⟩
          case measure => simp [intOf]; omega
        · have hxy2 : (x != y) = true := by simp [hxy]
          have HX := Lib.hid hxy
          clear hxy
          go_wp2_with fail
          go_quiet (fail)
          go_wp2_with (at_builtin; refine wpList_append_any _ rfl (.tmp 28) (.tmp 35) _ rfl w.heap.size 27 i0 _ 2 16 Try.underlying23 hi0 hz0 hz1 hz2 rfl (by omega) _ (diffTo xs ys k).length ((diffTo xs ys k).flatMap flC.enc) rfl ((HO.out.drewN _).alloc _) (wr.heap.size + 1) (some ⟨wr.heap.size, 0, none⟩) 1 1 (flC.enc ⟨(k : Int), y⟩) rfl (box_reads flC (wr.drewN _) _ _ ⟨(k : Int), y⟩ rfl) (flC.one _) (by simp only [maxLen]; omega) (by omega) (by simp; have := hbr.size; omega) ?_; intro v1 w1 hown1 hg1 hat1)
          go_roundw
          case rel => exact ⟨k + 1, by omega, by go_num, by rw [HD.out.2 HX.out]; exact Ow.snoc hown1, ((below_drawn hbr _).alloc hbr.size _).grown hg1 (by simp; have := hbr.size; omega) (HO.out.base_)⟩
          case measure => simp [intOf]; omega
      · have hkm : k = n := by omega
        subst hkm
        go_wp2_with fail
        go_ret2
        have hll : xs.length = ys.length := by rw [H1.out, H2.out, HN.out]
        exact ⟨_, by rw [decide_eq_true hll]; rfl, by unfold diff; rw [if_pos hll, H2.out, ← HN.out]; exact hown, hbr⟩
  · have hb : ((n : Int) != (m : Int)) = true := by simp; omega
    have hll : ¬ xs.length = ys.length := by omega
    have H3 := Lib.hid hll
    clear h1 h2 hll
    go_enter Try.func14, Try.ntmps14
    go_wp2_with fail
    go_ret2
    exact ⟨_, by rw [decide_eq_false H3.out]; rfl, by unfold diff; rw [if_neg H3.out]; exact Ow.nil_ _ _ _ _, Below.refl _ _⟩
end Go.Proofs.Ytmaehdoejpecgaa
