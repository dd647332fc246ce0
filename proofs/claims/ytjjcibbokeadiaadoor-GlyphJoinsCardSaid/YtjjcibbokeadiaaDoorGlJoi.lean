/- Walk of GlyphJoins. -/
import Derived.Test.YtjjcibbokeadiaaDoorGlLaw
import Derived.Test.YtjjcibbokeadiaaDoorGlKn
set_option linter.unusedVariables false
namespace Go.Proofs.YtjjcibbokeadiaaDoor
open Go.RowKit

set_option maxHeartbeats 4000000 in
theorem joins_calls (a b : ByteArray) (w : World) (hT : Tabs w) :
    Calls Tryd.prog 7 #[.string a, .string b] w fun e w' => e = .returned (.bool true) ∧ Below w.heap.size w w' := by
  have HT := Lib.hid hT
  clear hT
  by_cases h1 : (300 : Int) < (a.size : Int)
  · go_enter Tryd.func7, Tryd.ntmps7
    go_wp2_with fail
    go_ret
    exact ⟨rfl, Below.refl _ _⟩
  by_cases h2 : (300 : Int) < (b.size : Int)
  · go_enter Tryd.func7, Tryd.ntmps7
    go_wp2_with fail
    go_ret
    exact ⟨rfl, Below.refl _ _⟩
  have KA := Lib.hid (whole_calls w HT.out a (by omega))
  have KB := Lib.hid (fun W h => whole_calls W h b (by omega))
  have ha8 : (a.size : Int) ≤ 8388608 := by omega
  have hb8 : (b.size : Int) ≤ 8388608 := by omega
  cases hwa : wholeR (rn (byt a)) with
  | false =>
    rw [hwa] at KA
    clear hwa
    go_enter Tryd.func7, Tryd.ntmps7
    go_wp2_with fail
    refine KA.out.mono ?_
    rintro e w1 ⟨rfl, hb1⟩
    go_wp2_with fail
    go_ret
    exact ⟨rfl, hb1⟩
  | true =>
    rw [hwa] at KA
    cases hwb : wholeR (rn (byt b)) with
    | false =>
      rw [hwb] at KB
      clear hwa hwb
      go_enter Tryd.func7, Tryd.ntmps7
      go_wp2_with fail
      refine KA.out.mono ?_
      rintro e w1 ⟨rfl, hb1⟩
      go_wp2_with fail
      refine (KB.out w1 (HT.out.stay hb1)).mono ?_
      rintro e w2 ⟨rfl, hb2⟩
      go_wp2_with fail
      go_ret
      exact ⟨rfl, below_more hb1 hb2⟩
    | true =>
      rw [hwb] at KB
      have WA := Lib.hid (fun W => Width_calls W a (by omega))
      have WB := Lib.hid (fun W => Width_calls W b (by omega))
      have WC := Lib.hid (fun W => Width_calls W (a ++ b) (by rw [ByteArray.size_append]; omega))
      rw [byt_app, rn_app _ (byt_lt a) hwa, List.length_append] at WC
      have hla := Nat.le_trans (rn_len (byt a)) (Nat.le_of_eq (byt_len a))
      have hlb := Nat.le_trans (rn_len (byt b)) (Nat.le_of_eq (byt_len b))
      clear hwa hwb
      generalize (rn (byt a)).length = m at *
      generalize (rn (byt b)).length = n at *
      have hmn : (m : Int) ≤ 300 := by omega
      have hnn : (n : Int) ≤ 300 := by omega
      have hc : ((m + n : Nat) : Int) = (m : Int) + (n : Int) := by omega
      rw [hc] at WC
      clear hc
      go_enter Tryd.func7, Tryd.ntmps7
      go_wp2_with fail
      refine KA.out.mono ?_
      rintro e w1 ⟨rfl, hb1⟩
      go_wp2_with fail
      refine (KB.out w1 (HT.out.stay hb1)).mono ?_
      rintro e w2 ⟨rfl, hb2⟩
      have HB2 := Lib.hid (below_more hb1 hb2)
      clear hb1 hb2
      go_wp2_with fail
      refine (WC.out w2).mono ?_
      rintro e w3 ⟨rfl, hb3⟩
      have HB3 := Lib.hid (below_more HB2.out hb3)
      clear hb3
      go_wp2_with fail
      refine (WA.out w3).mono ?_
      rintro e w4 ⟨rfl, hb4⟩
      have HB4 := Lib.hid (below_more HB3.out hb4)
      clear hb4
      go_wp2_with fail
      refine (WB.out w4).mono ?_
      rintro e w5 ⟨rfl, hb5⟩
      have HB5 := Lib.hid (below_more HB4.out hb5)
      clear hb5
      go_wp2_with fail
      refine (known_calls _ (HT.out.stay HB5.out)).mono ?_
      rintro e w6 ⟨rfl, hb6⟩
      go_wp2_with fail
      go_ret
      exact ⟨rfl, below_more HB5.out hb6⟩
end Go.Proofs.YtjjcibbokeadiaaDoor
