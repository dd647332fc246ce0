/- Walks of known and of the laws FlatDiffs, FlatApplies, FlatOwn, FlatChains. -/
import Derived.Test.YtmaehdoejpecgaaFlatApp
set_option linter.unusedVariables false
namespace Go.Proofs.Ytmaehdoejpecgaa
open Go.ChangeShapes Go.WideShapes Go.ChangeAt Go.RowKit

theorem known_diff : diff [1, 2, 3] [1, 5, 3] = [⟨1, 5⟩] := by decide +kernel
set_option maxHeartbeats 1000000 in
theorem known_calls (w : World) : Calls Try.prog 13 #[] w fun e w' => e = .returned (.bool true) ∧ Below w.heap.size w w' := by
  go_enter Try.func13, Try.ntmps13
  go_wp2_with fail
  have hA1 := lit_reads flI (w := (w.alloc (.cells #[.int .i64 1, .int .i64 2, .int .i64 3] 3)).alloc (.cells #[.int .i64 1, .int .i64 5, .int .i64 3] 3)) [1, 2, 3] ((Blk.new w _ 3 (0, 0)).alloc _) rfl (by decide)
  have hB1 := lit_reads flI (w := (w.alloc (.cells #[.int .i64 1, .int .i64 2, .int .i64 3] 3)).alloc (.cells #[.int .i64 1, .int .i64 5, .int .i64 3] 3)) [1, 5, 3] (Blk.at_ (g := w.heap.size + 1) (by simp) _ 3 (0, 0)) rfl (by decide)
  refine (Diff_calls _ _ 3 3 3 3 [1, 2, 3] [1, 5, 3] _ hA1 hB1 (by omega)).mono ?_
  clear hA1 hB1
  rintro e w1 ⟨v, rfl, hown, hb⟩
  rw [known_diff] at hown
  obtain ⟨A, c, rfl, hR⟩ := hown.read (by decide)
  obtain ⟨b, o, x, hA, hx, c0, c1⟩ := rfC_at hR (j := 0) (by decide)
  subst hA
  have hx2 : x = ⟨1, 5⟩ := by simp at hx; exact hx.symm
  subst hx2
  have hq := run_eql_of (eqv_chg ⟨1, 5⟩ ⟨1, 5⟩) (by omega)
  rw [decide_eq_true rfl] at hq
  dsimp only at c0 c1 hq
  simp only [Nat.zero_mul, Nat.add_zero] at c0 c1
  have hB : Below w.heap.size w w1 := ((below_new w _).alloc (by simp) _).trans (hb.mono (by simp; omega))
  clear hown hb hR hx
  have hd : (decide (([1, 2, 3] : List Int).length = ([1, 5, 3] : List Int).length)) = true := rfl
  rw [hd]
  go_wp2_with fail
  go_ret
  exact ⟨rfl, hB⟩

/-! ### The plain law: what differs, laid over the one, is the other. -/
theorem applyTo_append (cs ds : List Chg) : ∀ xs, applyTo xs (cs ++ ds) = (applyTo xs cs).bind fun ys => applyTo ys ds := by
  induction cs with
  | nil => intro xs; rfl
  | cons c r ih =>
    intro xs
    rw [List.cons_append, applyTo, applyTo]
    split
    · rfl
    · exact ih _
theorem apply_diffTo (xs ys : List Int) (h : xs.length = ys.length) : ∀ k, k ≤ ys.length → applyTo xs (diffTo xs ys k) = some (ys.take k ++ xs.drop k)
  | 0, _ => by simp [diffTo, applyTo]
  | k + 1, hk => by
    have ih := apply_diffTo xs ys h k (by omega)
    have hx : xs[k]? = some (xs[k]'(by omega)) := List.getElem?_eq_getElem _
    have hy : ys[k]? = some (ys[k]'(by omega)) := List.getElem?_eq_getElem _
    have hdrop : xs.drop k = xs[k]'(by omega) :: xs.drop (k + 1) := List.drop_eq_getElem_cons (by omega)
    have htake : ys.take (k + 1) = ys.take k ++ [ys[k]'(by omega)] := List.take_succ_eq_append_getElem (by omega)
    have e : diffTo xs ys (k + 1) = if xs.getD k 0 = ys.getD k 0 then diffTo xs ys k else diffTo xs ys k ++ [⟨(k : Int), ys.getD k 0⟩] := rfl
    rw [e, getD_of hx, getD_of hy]
    split
    · rename_i hxy
      rw [ih, htake, hdrop, hxy, List.append_assoc]
      rfl
    · rw [applyTo_append, ih, Option.bind_some, applyTo, if_neg (by simp; omega), applyTo, htake, hdrop]
      have hl : (ys.take k).length = k := by simp; omega
      have e2 : ((k : Int)).toNat = k := by omega
      show some ((List.take k ys ++ xs[k]'(by omega) :: List.drop (k + 1) xs).set (k : Int).toNat (ys[k]'(by omega))) = _
      rw [e2, List.set_append_right _ _ (by omega), hl, Nat.sub_self, List.set_cons_zero, List.append_assoc]
      rfl
theorem apply_diff (xs ys : List Int) (h : xs.length = ys.length) : applyTo xs (diff xs ys) = some ys := by
  unfold diff
  rw [if_pos h, apply_diffTo xs ys h _ (Nat.le_refl _)]
  simp [h]
theorem rf_n {α : Type} {f : Fl α} {w : World} {A : Option Addr} {n : Nat} {xs : List α} (h : Rf f w A n xs) : xs.length = n := h.1

set_option maxHeartbeats 2000000 in
theorem diffs_calls (A B : Option Addr) (n m c d : Nat) (xs ys : List Int) (w : World) (hA : Rf flI w A n xs) (hB : Rf flI w B m ys) :
    Calls Try.prog 4 #[.slice A n c, .slice B m d] w fun e w' => e = .returned (.bool true) ∧ Below w.heap.size w w' := by
  have hn0 := hA.2.1
  have hm0 := hB.2.1
  by_cases h1 : (200 : Int) < n
  · go_enter Try.func4, Try.ntmps4
    go_wp2
    go_ret
    exact ⟨rfl, Below.refl _ _⟩
  by_cases h2 : (200 : Int) < m
  · go_enter Try.func4, Try.ntmps4
    go_wp2
    go_ret
    exact ⟨rfl, Below.refl _ _⟩
  have HA := Lib.hid hA
  have HB := Lib.hid hB
  clear hA hB
  go_enter Try.func4, Try.ntmps4
  go_wp2_with fail
  refine (Diff_calls A B n m c d xs ys w HA.out HB.out (by omega)).mono ?_
  rintro e w1 ⟨v1, rfl, o1, b1⟩
  obtain ⟨A1, c1, rfl, R1⟩ := o1.read (by decide)
  clear o1
  generalize hb : decide (xs.length = ys.length) = bb
  have HB2 := Lib.hid hb
  clear hb
  go_wp2_with fail
  refine (RefDiff_calls A B n m c d xs ys w1 (HA.out.stay b1) (HB.out.stay b1) (by omega)).mono ?_
  rintro e w2 ⟨v2, rfl, o2, b2⟩
  obtain ⟨A2, c2, rfl, R2⟩ := o2.read (by decide)
  clear o2
  rw [HB2.out]
  have R1' := R1.stay b2
  have b12 := below_more b1 b2
  have Q := Lib.hid (And.intro R1' (And.intro R2 b12))
  clear R1 R1' R2 b12 b1 b2
  have HL := Lib.hid (apply_diff xs ys)
  have hd0 : (bb = false) → (diff xs ys).length = 0 := fun h => by
    have : ¬ xs.length = ys.length := by have := HB2.out; rw [h] at this; exact of_decide_eq_false this
    unfold diff; rw [if_neg this]; rfl
  have H0 := Lib.hid hd0
  clear hd0
  generalize hD : diff xs ys = D at *
  have HD := Lib.hid hD
  clear hD
  cases bb with
  | false =>
    have hl0 : D.length = 0 := H0.out rfl
    have hnm : ((n : Int) != (m : Int)) = true := by
      have : ¬ xs.length = ys.length := of_decide_eq_false HB2.out
      rw [rf_n HA.out, rf_n HB.out] at this
      simp; omega
    have hl1 := Lib.hid hl0
    clear hl0
    go_wp2_with fail
    refine (changes_calls A1 A2 _ _ c1 c2 D D w2 Q.out.1 Q.out.2.1).mono ?_
    rintro e w3 ⟨rfl, b3⟩
    rw [show decide (D = D) = true from decide_eq_true rfl]
    rw [hl1.out]
    go_wp2_with fail
    refine (known_calls _).mono ?_
    rintro e w4 ⟨rfl, b4⟩
    go_wp2_with fail
    go_ret
    exact ⟨rfl, below_more (below_more Q.out.2.2 b3) b4⟩
  | true =>
    have hll : xs.length = ys.length := of_decide_eq_true HB2.out
    have HLL := Lib.hid hll
    clear hll
    go_wp2_with fail
    refine (changes_calls A1 A2 _ _ c1 c2 D D w2 Q.out.1 Q.out.2.1).mono ?_
    rintro e w3 ⟨rfl, b3⟩
    rw [show decide (D = D) = true from decide_eq_true rfl]
    have b03 := Lib.hid (below_more Q.out.2.2 b3)
    have Q1 := Lib.hid (Q.out.1.stay b3)
    clear b3
    go_wp2_with fail
    refine (Apply_calls A A1 n _ c c1 xs D w3 (HA.out.stay b03.out) Q1.out (by omega)).mono ?_
    rintro e w4 (⟨zs, v, hz, rfl, o4, b4⟩ | ⟨hz, _, _⟩)
    · have hzy : zs = ys := by rw [HL.out HLL.out] at hz; exact (Option.some.inj hz).symm
      subst hzy
      clear hz
      obtain ⟨A4, c4, rfl, R4⟩ := o4.read (by decide)
      clear o4
      have R4' := Lib.hid R4
      have b04 := Lib.hid (below_more b03.out b4)
      clear R4 b4
      go_wp2_with fail
      refine (Ints_calls A4 B _ m c4 d zs zs w4 R4'.out (HB.out.stay b04.out)).mono ?_
      rintro e w5 ⟨rfl, b5⟩
      rw [show decide (zs = zs) = true from decide_eq_true rfl]
      go_wp2_with fail
      refine (known_calls _).mono ?_
      rintro e w6 ⟨rfl, b6⟩
      go_wp2_with fail
      go_ret
      exact ⟨rfl, below_more (below_more b04.out b5) b6⟩
    · rw [HL.out HLL.out] at hz
      cases hz
end Go.Proofs.Ytmaehdoejpecgaa
