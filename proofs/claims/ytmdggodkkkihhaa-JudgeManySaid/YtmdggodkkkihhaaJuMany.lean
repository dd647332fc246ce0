/- Walk of JudgeMany. -/
import Derived.Test.YtmdggodkkkihhaaJuMn0
import Derived.Test.YtmdggodkkkihhaaJuMn1
import Derived.Test.YtmdggodkkkihhaaJuMn2
import Derived.Test.YtmdggodkkkihhaaJuMn3
import Derived.Test.YtmdggodkkkihhaaJuMn4
set_option linter.unusedVariables false
namespace Go.Proofs.Ytmdggodkkkihhaa
open Go.RowKit

set_option maxHeartbeats 8000000 in
theorem judgeMany_calls (s p d g r : Int) (w : World) : Calls Try.prog 5 #[.int .i64 s, .int .i64 p, .int .i64 d, .int .i64 g, .int .i64 r] w fun e w' => e = .returned (.bool true) ∧ Below w.heap.size w w' := by
  by_cases k0 : s < 0
  · go_enter Try.func5, Try.ntmps5
    go_wp2_with fail
    go_ret
    exact ⟨rfl, Below.refl _ _⟩
  by_cases k1 : 4 < s
  · go_enter Try.func5, Try.ntmps5
    go_wp2_with fail
    go_ret
    exact ⟨rfl, Below.refl _ _⟩
  by_cases k2 : p < 0
  · go_enter Try.func5, Try.ntmps5
    go_wp2_with fail
    go_ret
    exact ⟨rfl, Below.refl _ _⟩
  by_cases k3 : 3 < p
  · go_enter Try.func5, Try.ntmps5
    go_wp2_with fail
    go_ret
    exact ⟨rfl, Below.refl _ _⟩
  by_cases k4 : d < 0
  · go_enter Try.func5, Try.ntmps5
    go_wp2_with fail
    go_ret
    exact ⟨rfl, Below.refl _ _⟩
  by_cases k5 : 3 < d
  · go_enter Try.func5, Try.ntmps5
    go_wp2_with fail
    go_ret
    exact ⟨rfl, Below.refl _ _⟩
  by_cases k6 : g < 0
  · go_enter Try.func5, Try.ntmps5
    go_wp2_with fail
    go_ret
    exact ⟨rfl, Below.refl _ _⟩
  by_cases k7 : 4 < g
  · go_enter Try.func5, Try.ntmps5
    go_wp2_with fail
    go_ret
    exact ⟨rfl, Below.refl _ _⟩
  by_cases k8 : r < 0
  · go_enter Try.func5, Try.ntmps5
    go_wp2_with fail
    go_ret
    exact ⟨rfl, Below.refl _ _⟩
  by_cases k9 : 3 < r
  · go_enter Try.func5, Try.ntmps5
    go_wp2_with fail
    go_ret
    exact ⟨rfl, Below.refl _ _⟩
  obtain ⟨s, rfl⟩ : ∃ n : Nat, s = n := ⟨s.toNat, by omega⟩
  obtain ⟨p, rfl⟩ : ∃ n : Nat, p = n := ⟨p.toNat, by omega⟩
  obtain ⟨d, rfl⟩ : ∃ n : Nat, d = n := ⟨d.toNat, by omega⟩
  obtain ⟨g, rfl⟩ : ∃ n : Nat, g = n := ⟨g.toNat, by omega⟩
  obtain ⟨r, rfl⟩ : ∃ n : Nat, r = n := ⟨r.toNat, by omega⟩
  have hs : s ≤ 4 := by omega
  have hp : p ≤ 3 := by omega
  have hd : d ≤ 3 := by omega
  have hg : g ≤ 4 := by omega
  have hr : r ≤ 3 := by omega
  cases hok : okM s p d g with
  | true =>
    have h3 : ((d : Int) == 1) = true := by
      unfold okM at hok
      rw [Bool.and_eq_true, Bool.and_eq_true] at hok
      exact hok.1.2
    have h4 : ((g : Int) == 2) = true := by
      unfold okM at hok
      rw [Bool.and_eq_true] at hok
      exact hok.2
    cases h5 : ((r : Int) == 1) with
    | true => exact judgeMany_in0 s p d g r hs hp hd hg hr hok h3 h4 h5 w
    | false => exact judgeMany_in1 s p d g r hs hp hd hg hr hok h3 h4 h5 w
  | false =>
    cases h3 : ((d : Int) == 1) with
    | false => exact judgeMany_in2 s p d g r _ _ hs hp hd hg hr hok h3 rfl rfl w
    | true =>
      cases h4 : ((g : Int) == 2) with
      | false => exact judgeMany_in3 s p d g r _ hs hp hd hg hr hok h3 h4 rfl w
      | true => exact judgeMany_in4 s p d g r _ hs hp hd hg hr hok h3 h4 rfl w
end Go.Proofs.Ytmdggodkkkihhaa
