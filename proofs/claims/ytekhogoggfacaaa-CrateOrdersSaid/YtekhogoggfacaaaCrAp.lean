/- Walk of CrateApart. -/
import Derived.Test.YtekhogoggfacaaaCrBe
set_option linter.unusedVariables false
namespace Go.Proofs.Ytekhogoggfacaaa
open Go.RowKit

set_option maxHeartbeats 4000000 in
theorem apart_calls (A : Option Addr) (n c : Nat) (xs : List Th) (m : Int) (w : World) (hA : Rf flTh w A n xs) :
    Calls Try.prog 8 #[.slice A n c, .int .i64 m] w fun e w' => e = .returned (.bool true) ∧ Below w.heap.size w w' := by
  have hn := hA.2.1
  have H1 := Lib.hid hA.1
  go_enter Try.func8, Try.ntmps8
  go_wp2_with fail
  refine (long_calls A n c xs w hA).mono ?_
  rintro e w1 ⟨rfl | rfl, hb1⟩
  rotate_left
  · clear hA
    go_wp2_with fail
    go_ret
    exact ⟨rfl, hb1⟩
  by_cases hN : 100 ≤ n
  · have hN' : (100 : Int) ≤ n := by omega
    clear hA
    go_wp2_with fail
    go_ret
    exact ⟨rfl, hb1⟩
  have hN' : ¬ (100 : Int) ≤ n := by omega
  go_wp2_with fail
  refine (made_calls A n c xs w1 (hA.stay hb1)).mono ?_
  rintro e w2 ⟨b, v, b', v', rfl, hc, hr, hb2⟩
  clear hr
  have hb2' := below_more hb1 hb2
  go_wp2_with fail
  refine (made_calls A n c xs w2 (hA.stay hb2')).mono ?_
  rintro e w3 ⟨d, u, d', u', rfl, hc2, hr, hb3⟩
  clear hr
  have HW := Lib.hid hb1.size
  have hd := hc.apart hc2 (Nat.le_refl _)
  have hc := hc.stay hb3
  have hlen : (madeT xs).length = n := by rw [madeT_len, H1.out]; omega
  have hc2 := hc2.lower hb2.size
  have hB3 : w1.heap.size ≤ w3.heap.size := Nat.le_trans hb2.size hb3.size
  have hlen2 : ((madeT xs).map itOf).length = n := by rw [List.length_map]; exact hlen
  generalize (madeT xs).map itOf = its at *
  have HB := Lib.hid (below_more hb2' hb3)
  have HC := Lib.hid hc
  have HD := Lib.hid hc2
  have HL := Lib.hid hlen2
  have S0 := Same_calls w3 _ _ _ _ hc.cz hc2.cz
  rw [decide_eq_true rfl] at S0
  clear hA hb1 hb2 hb2' hb3 hc hc2 hlen hlen2
  go_wp2_with fail
  refine S0.mono ?_
  rintro e w4 ⟨rfl, hb4⟩
  have HB := Lib.hid (below_more HB.out hb4)
  have HC := Lib.hid (HC.out.stay hb4)
  have HD := Lib.hid (HD.out.stay hb4)
  have hB4 : w1.heap.size ≤ w4.heap.size := Nat.le_trans hB3 hb4.size
  clear S0 hb4
  go_wp2_with fail
  refine (AddInt_calls m w4 w1.heap.size b v its HC.out hB4).mono ?_
  rintro e w5 hp
  obtain ⟨rfl, v1, c1, o1, q1, g1⟩ := hp.yes hB4 HC.out (by rw [HL.out]; omega)
  obtain ⟨c2, hd⟩ := HD.out.beside hd o1 q1
  have HB := Lib.hid (HB.out.trans (g1.mono (by have := HW.out; omega)))
  have hB5 : w1.heap.size ≤ w5.heap.size := Nat.le_trans hB4 g1.size
  have hne : decide (its ++ [It.num m] = its) = false := decide_eq_false (fun h => by have := congrArg List.length h; simp at this)
  have S0 := Same_calls w5 _ _ _ _ c1.cz c2.cz
  rw [hne] at S0
  have HC := Lib.hid c1
  have HD := Lib.hid c2
  clear hp c1 c2 o1 q1 g1 hne
  go_wp2_with fail
  refine S0.mono ?_
  rintro e w6 ⟨rfl, hb6⟩
  have HB := Lib.hid (below_more HB.out hb6)
  have HC := Lib.hid (HC.out.stay hb6)
  have HD := Lib.hid (HD.out.stay hb6)
  have hB6 : w1.heap.size ≤ w6.heap.size := Nat.le_trans hB5 hb6.size
  clear S0 hb6
  have L1 := Len_calls w6 _ _ HC.out.cz
  have L2 := Len_calls w6 _ _ HD.out.cz
  rw [HL.out] at L2
  rw [List.length_append, HL.out] at L1
  have ec : ((n + [It.num m].length : Nat) : Int) = (n : Int) + 1 := by simp
  rw [ec] at L1
  clear ec
  go_wp2_with fail
  refine L2.mono ?_
  rintro e w7 ⟨rfl, rfl⟩
  go_wp2_with fail
  refine L1.mono ?_
  rintro e w7 ⟨rfl, rfl⟩
  clear L1 L2
  go_wp2_with fail
  refine (AddInt_calls m w6 w1.heap.size d u its HD.out hB6).mono ?_
  rintro e w7 hp
  obtain ⟨rfl, v2, c2, o1, q1, g1⟩ := hp.yes hB6 HD.out (by rw [HL.out]; omega)
  obtain ⟨c1, hd⟩ := HC.out.beside hd.symm o1 q1
  have HB := Lib.hid (HB.out.trans (g1.mono (by have := HW.out; omega)))
  have S0 := Same_calls w7 _ _ _ _ c1.cz c2.cz
  rw [decide_eq_true rfl] at S0
  clear hp c1 c2 o1 q1 g1
  go_wp2_with fail
  refine S0.mono ?_
  rintro e w8 ⟨rfl, hb8⟩
  have HB := Lib.hid (below_more HB.out hb8)
  clear S0 hb8
  go_wp2_with fail
  refine (known_calls w8).mono ?_
  rintro e w9 ⟨rfl, hb9⟩
  go_wp2_with fail
  go_ret
  exact ⟨by simp, below_more HB.out hb9⟩
end Go.Proofs.Ytekhogoggfacaaa
