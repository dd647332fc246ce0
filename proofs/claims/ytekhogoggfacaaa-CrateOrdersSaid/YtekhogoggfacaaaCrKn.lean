/- Walks of known and tells. -/
import Derived.Test.YtekhogoggfacaaaCrLaw
set_option linter.unusedVariables false
namespace Go.Proofs.Ytekhogoggfacaaa
open Go.RowKit

set_option maxHeartbeats 2000000 in
theorem known_calls (w : World) : Calls Try.prog 16 #[] w fun e w' => e = .returned (.bool true) ∧ Below w.heap.size w w' := by
  go_enter Try.func16, Try.ntmps16
  go_wp2_with fail
  refine (NewBox_calls w).mono ?_
  rintro e w1 ⟨b, rfl, hc0, hb0⟩
  go_wp2_with fail
  refine (AddText_calls _ w1 w.heap.size b _ [] hc0 hb0.size).mono ?_
  rintro e w2 (⟨hl, _⟩ | ⟨_, rfl, v1, hc1, ho1, _⟩)
  · exact absurd hl (by decide)
  have hb1 := hb0.trans (ho1.below hb0.size (fun q hq hs => (hc0.foot q hs).1))
  clear hc0 hb0 ho1
  go_wp2_with fail
  refine (AddInt_calls _ w2 w.heap.size b _ _ hc1 hb1.size).mono ?_
  rintro e w3 (⟨hl, _⟩ | ⟨_, rfl, v2, hc2, ho2, _⟩)
  · exact absurd hl (by simp)
  have hb2 := hb1.trans (ho2.below hb1.size (fun q hq hs => (hc1.foot q hs).1))
  clear hc1 hb1 ho2
  go_wp2_with fail
  refine (Int_calls w3 _ _ hc2.cz 0).mono ?_
  rintro e w4 ⟨rfl, rfl⟩
  go_wp2_with fail
  refine (Int_calls w3 _ _ hc2.cz 1).mono ?_
  rintro e w4 ⟨rfl, rfl⟩
  go_wp2_with fail
  refine (Len_calls w3 _ _ hc2.cz).mono ?_
  rintro e w4 ⟨rfl, rfl⟩
  go_wp2_with fail
  refine (MustInt_calls w3 _ _ hc2.cz 1 7 rfl).mono ?_
  rintro e w4 ⟨rfl, rfl⟩
  go_wp2_with fail
  go_ret
  exact ⟨rfl, hb2⟩

set_option maxHeartbeats 4000000 in
theorem tells_calls (w : World) (p : Option Addr) (its : List It) (B b : Nat) (v : Value) (ts : List Th) (i : Int) (h : Cz w p its) (hr : Rc w B b v ts) (he : its = ts.map itOf) (hk : ∀ t ∈ ts, t.k = 1 ∨ t.k = 2 ∨ t.k = 3) :
    Calls Try.prog 20 #[.pointer p, .pointer (some ⟨b, 0, none⟩), .int .i64 i] w fun e w' => e = .returned (.bool true) ∧ Below w.heap.size w w' := by
  subst he
  obtain ⟨⟨y1, f1, g1⟩, ⟨y2, f2, g2⟩, ⟨y3, f3, g3⟩⟩ := tells_facts ts i hk
  have I1 := Int_calls w p _ h i
  have I2 := Text_calls w p _ h i
  have I3 := Bool_calls w p _ h i
  rw [← g1] at I1
  rw [← g2] at I2
  rw [← g3] at I3
  have A1 := fun W (hb : Below w.heap.size w W) => RefAt_calls W B b v ts (hr.stay hb) i 1
  have A2 := fun W (hb : Below w.heap.size w W) => RefAt_calls W B b v ts (hr.stay hb) i 2
  have A3 := fun W (hb : Below w.heap.size w W) => RefAt_calls W B b v ts (hr.stay hb) i 3
  rw [f1] at A1
  rw [f2] at A2
  rw [f3] at A3
  generalize (numOf (lk (ts.map itOf) i)).2 = r1 at *
  generalize (txtOf (lk (ts.map itOf) i)).2 = r2 at *
  generalize (truOf (lk (ts.map itOf) i)).2 = r3 at *
  unfold Th.val at A1 A2 A3
  clear f1 f2 f3 g1 g2 g3 hr h hk
  go_enter Try.func20, Try.ntmps20
  go_wp2_with fail
  refine I1.mono ?_
  rintro e w1 ⟨rfl, rfl⟩
  go_wp2_with fail
  refine I2.mono ?_
  rintro e w1 ⟨rfl, rfl⟩
  go_wp2_with fail
  refine I3.mono ?_
  rintro e w1 ⟨rfl, rfl⟩
  go_wp2_with fail
  refine (A1 w (Below.refl _ _)).mono ?_
  rintro e w1 ⟨rfl, hb1⟩
  have hB1 := hb1.trans ((below_new w1 (.cells #[.int .i64 y1.k, .int .i64 y1.n, .string y1.s, .bool y1.b] 31)).mono hb1.size)
  have q1 := (Blk.new w1 #[.int .i64 y1.k, .int .i64 y1.n, .string y1.s, .bool y1.b] 31 (0, 0)).cell 1
  go_wp2_with fail
  refine (A2 _ hB1).mono ?_
  rintro e w2 ⟨rfl, hb2⟩
  have q1 := cell_stay hb2 q1
  have hB1 := hB1.trans (hb2.mono hB1.size)
  have hB2 := hB1.trans ((below_new w2 (.cells #[.int .i64 y2.k, .int .i64 y2.n, .string y2.s, .bool y2.b] 31)).mono hB1.size)
  have q1 := cell_stay (below_new w2 (.cells #[.int .i64 y2.k, .int .i64 y2.n, .string y2.s, .bool y2.b] 31)) q1
  have q2 := (Blk.new w2 #[.int .i64 y2.k, .int .i64 y2.n, .string y2.s, .bool y2.b] 31 (0, 0)).cell 2
  clear hb1 hb2 hB1
  go_wp2_with fail
  refine (A3 _ hB2).mono ?_
  rintro e w3 ⟨rfl, hb3⟩
  have q1 := cell_stay hb3 q1
  have q2 := cell_stay hb3 q2
  have hB2 := hB2.trans (hb3.mono hB2.size)
  have hB3 := Lib.hid (hB2.trans ((below_new w3 (.cells #[.int .i64 y3.k, .int .i64 y3.n, .string y3.s, .bool y3.b] 31)).mono hB2.size))
  have q1 := cell_stay (below_new w3 (.cells #[.int .i64 y3.k, .int .i64 y3.n, .string y3.s, .bool y3.b] 31)) q1
  have q2 := cell_stay (below_new w3 (.cells #[.int .i64 y3.k, .int .i64 y3.n, .string y3.s, .bool y3.b] 31)) q2
  have q3 := (Blk.new w3 #[.int .i64 y3.k, .int .i64 y3.n, .string y3.s, .bool y3.b] 31 (0, 0)).cell 3
  simp only [List.getElem?_toArray, List.getElem?_cons_zero, List.getElem?_cons_succ] at q1 q2 q3
  clear hb3 hB2
  go_wp2_with fail
  go_ret
  exact ⟨by simp, hB3.out⟩
end Go.Proofs.Ytekhogoggfacaaa
