/- Walk of GlyphOrders. -/
import Derived.Test.YtjjcibbokeadiaaDoorGlLaw
import Derived.Test.YtjjcibbokeadiaaDoorGlKn
set_option linter.unusedVariables false
namespace Go.Proofs.YtjjcibbokeadiaaDoor
open Go.RowKit

theorem cmpL_more (s : ByteArray) : cmpL (byt s) (byt (s ++ ⟨#[120]⟩)) = -1 ∧ cmpL (byt (s ++ ⟨#[120]⟩)) (byt s) = 1 := by
  have e : byt (s ++ ⟨#[120]⟩) = byt s ++ [120] := by rw [byt_app]; rfl
  unfold cmpL
  rw [e, rn_plain _ (by omega)]
  have h := cmpR_more (rn (byt s)) (120, 1)
  refine ⟨h, ?_⟩
  rw [cmpR_swap, h]
  rfl
theorem size3 (a b c : Nat) (ha : a ≤ 140737488351232) (hb : b ≤ 140737488351232) (hc : c ≤ 140737488351232) : wrap64 (wrap64 ((a : Int) + b) + c) = (a : Int) + b + c := by
  unfold wrap64
  omega
set_option maxRecDepth 100000 in
set_option maxHeartbeats 8000000 in
theorem orders1_calls (a b c : ByteArray) (w : World) (hT : Tabs w) (ha : a.size ≤ 140737488351232) (hb : b.size ≤ 140737488351232) (hc : c.size ≤ 140737488351232) :
    Calls Tryd.prog 11 #[.string a, .string b, .string c] w fun e w' => e = .returned (.bool true) ∧ Below w.heap.size w w' := by
  have HT := Lib.hid hT
  clear hT
  by_cases h1 : (300 : Int) < (a.size : Int) + (b.size : Int) + (c.size : Int)
  · go_enter Tryd.func11, Tryd.ntmps11
    go_wp2_with fail
    go_ret
    exact ⟨rfl, Below.refl _ _⟩
  have KAB := Lib.hid (fun W => Cmp_calls W a b (by omega) (by omega))
  have KBC := Lib.hid (fun W => Cmp_calls W b c (by omega) (by omega))
  have KAC := Lib.hid (fun W => Cmp_calls W a c (by omega) (by omega))
  have KBA := Lib.hid (fun W => Cmp_calls W b a (by omega) (by omega))
  have KAA := Lib.hid (fun W => Cmp_calls W a a (by omega) (by omega))
  have KAX := Lib.hid (fun W => Cmp_calls W a (a ++ ⟨#[120]⟩) (by omega) (by rw [ByteArray.size_append]; show a.size + 1 ≤ _; omega))
  have KXA := Lib.hid (fun W => Cmp_calls W (a ++ ⟨#[120]⟩) a (by rw [ByteArray.size_append]; show a.size + 1 ≤ _; omega) (by omega))
  rw [(cmpL_more a).1] at KAX
  rw [(cmpL_more a).2] at KXA
  have e1 : cmpL (byt b) (byt a) = - cmpL (byt a) (byt b) := cmpR_swap _ _
  have e2 : cmpL (byt a) (byt a) = 0 := cmpR_self _
  have r1 := cmpR_range (rn (byt a)) (rn (byt b))
  have t1 := cmpR_trans (rn (byt a)) (rn (byt b)) (rn (byt c))
  rw [e1] at KBA
  rw [e2] at KAA
  unfold cmpL at KAB KBC KAC KBA
  clear e1 e2
  generalize cmpR (rn (byt a)) (rn (byt b)) = x at *
  generalize cmpR (rn (byt b)) (rn (byt c)) = y at *
  generalize cmpR (rn (byt a)) (rn (byt c)) = z at *
  have ha8 : (a.size : Int) ≤ 8388608 := by omega
  have hneg : (x != - - x) = false := by simp
  have hx1 : (-1 : Int) ≤ x := r1.1
  have hx2 : x ≤ 1 := r1.2
  have hxw : wrap64 (- -x) = x := by unfold wrap64; omega
  clear r1
  go_enter Tryd.func11, Tryd.ntmps11
  go_wp2_with fail
  refine (KAB.out w).mono ?_
  rintro e w1 ⟨rfl, hb1⟩
  have HB1 := Lib.hid hb1
  clear hb1
  go_wp2_with fail
  refine (KBC.out w1).mono ?_
  rintro e w2 ⟨rfl, hb2⟩
  have HB2 := Lib.hid (below_more HB1.out hb2)
  clear hb2
  go_wp2_with fail
  refine (KAC.out w2).mono ?_
  rintro e w3 ⟨rfl, hb3⟩
  have HB3 := Lib.hid (below_more HB2.out hb3)
  clear hb3
  go_wp2_with fail
  refine (KBA.out w3).mono ?_
  rintro e w4 ⟨rfl, hb4⟩
  have HB4 := Lib.hid (below_more HB3.out hb4)
  clear hb4
  have hmid : ∀ P : Prop, (x ≤ 0 → y ≤ 0 → ¬ 0 < z → P) → (x ≤ 0 → ¬ y ≤ 0 → P) → (¬ x ≤ 0 → P) → P := by
    intro P q1 q2 q3
    by_cases p1 : x ≤ 0
    · by_cases p2 : y ≤ 0
      · exact q1 p1 p2 (by have := t1 p1 p2; omega)
      · exact q2 p1 p2
    · exact q3 p1
  clear t1
  refine hmid _ (fun p1 p2 p3 => ?_) (fun p1 p2 => ?_) (fun p1 => ?_)
  all_goals
    go_wp2_with fail
    refine (KAA.out w4).mono ?_
    rintro e w5 ⟨rfl, hb5⟩
    have HB5 := Lib.hid (below_more HB4.out hb5)
    clear hb5
    go_wp2_with fail
    refine (KAX.out w5).mono ?_
    rintro e w6 ⟨rfl, hb6⟩
    have HB6 := Lib.hid (below_more HB5.out hb6)
    clear hb6
    go_wp2_with fail
    refine (KXA.out w6).mono ?_
    rintro e w7 ⟨rfl, hb7⟩
    have HB7 := Lib.hid (below_more HB6.out hb7)
    clear hb7
    go_wp2_with fail
    refine (known_calls _ (HT.out.stay HB7.out)).mono ?_
    rintro e w8 ⟨rfl, hb8⟩
    go_wp2_with fail
    go_ret
    exact ⟨rfl, below_more HB7.out hb8⟩
end Go.Proofs.YtjjcibbokeadiaaDoor
