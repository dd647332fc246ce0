/- Walks of CrateOfNothing, CrateFull, CrateKinds. -/
import Derived.Test.YtekhogoggfacaaaCrSa
set_option linter.unusedVariables false
namespace Go.Proofs.Ytekhogoggfacaaa
open Go.RowKit

theorem addNil_calls (t : TypeId) (u : Value) (w : World) :
    Calls Try.prog 34 #[.pointer none, .iface t u] w fun e w' => e = .returned (.bool false) ∧ w = w' := by
  go_enter Try.func34, Try.ntmps34
  go_wp2_with fail
  go_ret
  exact ⟨rfl, rfl⟩
theorem AddIntNil_calls (n : Int) (w : World) :
    Calls Try.prog 25 #[.pointer none, .int .i64 n] w fun e w' => e = .returned (.bool false) ∧ w = w' := by
  go_enter Try.func25, Try.ntmps25
  go_wp2_with fail
  refine (addNil_calls _ _ w).mono ?_
  rintro e w1 ⟨rfl, rfl⟩
  go_wp2_with fail
  go_ret
  exact ⟨rfl, rfl⟩
theorem AddTextNil_calls (n : ByteArray) (w : World) :
    Calls Try.prog 26 #[.pointer none, .string n] w fun e w' => e = .returned (.bool false) ∧ w = w' := by
  go_enter Try.func26, Try.ntmps26
  go_wp2_with fail
  refine (addNil_calls _ _ w).mono ?_
  rintro e w1 ⟨rfl, rfl⟩
  go_wp2_with fail
  go_ret
  exact ⟨rfl, rfl⟩
theorem AddBoolNil_calls (n : Bool) (w : World) :
    Calls Try.prog 27 #[.pointer none, .bool n] w fun e w' => e = .returned (.bool false) ∧ w = w' := by
  go_enter Try.func27, Try.ntmps27
  go_wp2_with fail
  refine (addNil_calls _ _ w).mono ?_
  rintro e w1 ⟨rfl, rfl⟩
  go_wp2_with fail
  go_ret
  exact ⟨rfl, rfl⟩
theorem lk_nil (i : Int) : lk [] i = none := by unfold lk; split <;> simp
set_option maxHeartbeats 2000000 in
theorem nothing_calls (i n : Int) (w : World) :
    Calls Try.prog 11 #[.int .i64 i, .int .i64 n] w fun e w' => e = .returned (.bool true) ∧ Below w.heap.size w w' := by
  have I1 := Int_calls w none [] (Cz.nil_ w) i
  have I2 := Text_calls w none [] (Cz.nil_ w) i
  have I3 := Bool_calls w none [] (Cz.nil_ w) i
  rw [lk_nil] at I1 I2 I3
  go_enter Try.func11, Try.ntmps11
  go_wp2_with fail
  refine I1.mono ?_
  rintro e w1 ⟨rfl, rfl⟩
  go_wp2_with fail
  refine I2.mono ?_
  rintro e w1 ⟨rfl, rfl⟩
  go_wp2_with fail
  refine I3.mono ?_
  rintro e w1 ⟨rfl, rfl⟩
  go_wp2_with fail
  refine (AddIntNil_calls n w).mono ?_
  rintro e w1 ⟨rfl, rfl⟩
  go_wp2_with fail
  refine (AddTextNil_calls _ w).mono ?_
  rintro e w1 ⟨rfl, rfl⟩
  go_wp2_with fail
  refine (AddBoolNil_calls _ w).mono ?_
  rintro e w1 ⟨rfl, rfl⟩
  go_wp2_with fail
  refine (Len_calls w none [] (Cz.nil_ w)).mono ?_
  rintro e w1 ⟨rfl, rfl⟩
  go_wp2_with fail
  refine (Same_calls w none none [] [] (Cz.nil_ w) (Cz.nil_ w)).mono ?_
  rw [decide_eq_true rfl]
  rintro e w1 ⟨rfl, hb1⟩
  go_wp2_with fail
  refine (known_calls w1).mono ?_
  rintro e w2 ⟨rfl, hb2⟩
  go_wp2_with fail
  go_ret
  exact ⟨rfl, below_more hb1 hb2⟩
set_option maxHeartbeats 4000000 in
theorem full_calls (n kd : Int) (w : World) :
    Calls Try.prog 4 #[.int .i64 n, .int .i64 kd] w fun e w' => e = .returned (.bool true) ∧ Below w.heap.size w w' := by
  by_cases h0 : n < 0
  · go_enter Try.func4, Try.ntmps4
    go_wp2_with fail
    go_ret
    exact ⟨rfl, Below.refl _ _⟩
  by_cases h1 : 200 < n
  · go_enter Try.func4, Try.ntmps4
    go_wp2_with fail
    go_ret
    exact ⟨rfl, Below.refl _ _⟩
  obtain ⟨n, rfl⟩ := Int.eq_ofNat_of_zero_le (show 0 ≤ n by omega)
  go_enter Try.func4, Try.ntmps4
  go_wp2_with fail
  refine (NewBox_calls w).mono ?_
  rintro e w1 ⟨b, rfl, hc0, hb0⟩
  go_wp2_with fail
  go_loopw [6] (fun i wr => ∃ (k : Nat) (v : Value) (its : List It), k ≤ n ∧ i = .int .i64 k ∧ Cr wr w.heap.size b v its ∧ Hid (its.length = min k 100) ∧ Below w.heap.size w wr) (fun i _ => n - (intOf i).toNat)
  case atStart => exact ⟨0, _, [], by omega, rfl, hc0, Lib.hid (by simp), hb0⟩
  case round =>
    obtain ⟨k, v, its, hk, rfl, hc, hl, hbr⟩ := hrel
    have HC := Lib.hid hc
    have HB := Lib.hid hbr
    clear hc hbr hc0 hb0
    by_cases hlt : k < n
    · by_cases hk100 : k < 100
      · have hk3 : (k : Int) < 100 := by omega
        go_wp2_with fail
        generalize wrap64 (wrap64 (1 + bits .and .i64 kd 1) + bits .and .i64 k 1) = kk at *
        refine (lawadd_calls ⟨kk, k, ⟨#[120]⟩, false⟩ wr w.heap.size b v its HC.out HB.out.size).mono ?_
        rintro e w3 (⟨hx, _⟩ | ⟨_, rfl, v1, hc1, ho1, _⟩)
        · exact absurd hx (by rw [hl.out]; omega)
        have HB1 := Lib.hid (HB.out.trans (ho1.below HB.out.size (fun q hq hs => (HC.out.foot q hs).1)))
        have HC1 := Lib.hid hc1
        clear hc1 ho1
        go_wp2_with fail
        go_roundw
        case rel => exact ⟨k + 1, v1, _, by omega, by go_num, HC1.out, Lib.hid (by rw [List.length_append, hl.out]; simp; omega), HB1.out⟩
        case measure => simp [intOf]; omega
      · have hk3 : ¬ (k : Int) < 100 := by omega
        go_wp2_with fail
        generalize wrap64 (wrap64 (1 + bits .and .i64 kd 1) + bits .and .i64 k 1) = kk at *
        refine (lawadd_calls ⟨kk, k, ⟨#[120]⟩, false⟩ wr w.heap.size b v its HC.out HB.out.size).mono ?_
        rintro e w3 (⟨_, rfl, hb1⟩ | ⟨hx, _⟩)
        rotate_left
        · exact absurd hx (by rw [hl.out]; omega)
        have HB1 := Lib.hid (below_more HB.out hb1)
        have HC1 := Lib.hid (HC.out.stay hb1)
        clear hb1
        go_wp2_with fail
        go_roundw
        case rel => exact ⟨k + 1, v, _, by omega, by go_num, HC1.out, Lib.hid (by rw [hl.out]; omega), HB1.out⟩
        case measure => simp [intOf]; omega
    · have hkn : k = n := by omega
      have L1 := Len_calls wr _ _ HC.out.cz
      rw [hl.out, hkn] at L1
      by_cases hn : n ≤ 100
      · rw [Nat.min_eq_left hn] at L1
        have hn2 : (n : Int) ≤ 100 := by omega
        go_wp2_with fail
        refine L1.mono ?_
        rintro e w3 ⟨rfl, rfl⟩
        go_wp2_with fail
        refine (known_calls wr).mono ?_
        rintro e w2 ⟨rfl, hb2⟩
        go_wp2_with fail
        go_ret
        exact ⟨rfl, below_more HB.out hb2⟩
      · rw [Nat.min_eq_right (by omega)] at L1
        have hn2 : ¬ (n : Int) ≤ 100 := by omega
        go_wp2_with fail
        refine L1.mono ?_
        rintro e w3 ⟨rfl, rfl⟩
        go_wp2_with fail
        refine (known_calls wr).mono ?_
        rintro e w2 ⟨rfl, hb2⟩
        go_wp2_with fail
        go_ret
        exact ⟨rfl, below_more HB.out hb2⟩
end Go.Proofs.Ytekhogoggfacaaa
