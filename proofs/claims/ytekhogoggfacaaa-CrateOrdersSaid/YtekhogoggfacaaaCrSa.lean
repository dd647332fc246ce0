/- Walk of CrateSame. -/
import Derived.Test.YtekhogoggfacaaaCrTl
set_option linter.unusedVariables false
namespace Go.Proofs.Ytekhogoggfacaaa
open Go.RowKit

/-- A Crate in whatever later world; what two rows compare as. Structures: what does not fit is told at once. -/
structure PZ (w : World) (p : Option Addr) (its : List It) : Prop where
  out : ∀ q : Later w, Cz q.w1 p its
structure SEq (xs ys : List It) (r : Bool) : Prop where
  out : decide (xs = ys) = r
theorem Bx.pz {w : World} {B b : Nat} {v : Value} {its : List It} (h : Cr w B b v its) : PZ w (some ⟨b, 0, none⟩) its := ⟨fun q => (h.stay q.hb).cz⟩
theorem PZ.nil_ (w : World) : PZ w none [] := ⟨fun q => Cz.nil_ q.w1⟩
theorem same_q {w : World} (q : Later w) {p p' : Option Addr} {xs ys : List It} {r : Bool} (h1 : PZ w p xs) (h2 : PZ w p' ys) (h3 : SEq xs ys r) :
    Calls Try.prog 23 #[.pointer p, .pointer p'] q.w1 fun e w' => e = .returned (.bool r) ∧ ∃ p : Later w, w' = p.w1 := by
  have h := Same_calls q.w1 p p' xs ys (h1.out q) (h2.out q)
  rw [h3.out] at h
  exact later_call q h
set_option maxHeartbeats 8000000 in
theorem same_calls (A A' : Option Addr) (n n' c c' : Nat) (xs ys : List Th) (w : World) (hA : Rf flTh w A n xs) (hA' : Rf flTh w A' n' ys) :
    Calls Try.prog 7 #[.slice A n c, .slice A' n' c'] w fun e w' => e = .returned (.bool true) ∧ Below w.heap.size w w' := by
  go_enter Try.func7, Try.ntmps7
  go_wp2_with fail
  refine (long_calls A n c xs w hA).mono ?_
  rintro e w1 ⟨rfl | rfl, hb1⟩
  rotate_left
  · clear hA
    go_wp2_with fail
    go_ret
    exact ⟨rfl, hb1⟩
  go_wp2_with fail
  refine (long_calls A' n' c' ys w1 (hA'.stay hb1)).mono ?_
  rintro e w1' ⟨rfl | rfl, hb1'⟩
  rotate_left
  · clear hA
    go_wp2_with fail
    go_ret
    exact ⟨rfl, below_more hb1 hb1'⟩
  have hb1 := below_more hb1 hb1'
  clear hb1'
  go_wp2_with fail
  refine (made_calls A n c xs w1' (hA.stay hb1)).mono ?_
  rintro e w2 ⟨b, v, b', v', rfl, hc, hr, hb2⟩
  have hb2 := below_more hb1 hb2
  go_wp2_with fail
  refine (made_calls A' n' c' ys w2 (hA'.stay hb2)).mono ?_
  rintro e w3 ⟨d, u, d', u', rfl, hc', hr', hb3⟩
  have hc := hc.stay hb3
  have hr := hr.stay hb3
  have hb := Lib.hid (below_more hb2 hb3)
  have p1 := madeT_plain xs
  have p2 := madeT_plain ys
  generalize madeT xs = ts at *
  generalize madeT ys = us at *
  obtain ⟨Ar, cr, hv', hh, hroom⟩ := rc_head hr
  obtain ⟨Ar', cr', hu', hh', hroom'⟩ := rc_head hr'
  have s2 := fun q : Later w3 => RefSame_calls q.w1 _ _ _ _ _ _ _ _ (hr.stay q.hb) (hr'.stay q.hb)
  have e4 : ((ts.length : Int) == 0) = decide (ts.map itOf = []) := by
    cases ts <;> simp
    omega
  have e5 : ((us.length : Int) == 0) = decide ([] = us.map itOf) := by
    cases us <;> simp
    omega
  have t1 : SEq (ts.map itOf) (us.map itOf) (decide (ts = us)) := ⟨same_fact p1 p2⟩
  have t3 : SEq (ts.map itOf) (ts.map itOf) true := ⟨by simp⟩
  have t4 : SEq (ts.map itOf) [] (decide (ts.map itOf = [])) := ⟨rfl⟩
  have t5 : SEq [] (us.map itOf) (decide ([] = us.map itOf)) := ⟨rfl⟩
  generalize decide (ts = us) = r1 at *
  generalize decide (ts.map itOf = []) = r4 at *
  generalize decide ([] = us.map itOf) = r5 at *
  have z1 := hc.pz
  have z2 := hc'.pz
  have z0 := PZ.nil_ w3
  generalize ts.map itOf = is at *
  generalize us.map itOf = js at *
  have l1 := later_cell hh
  have l2 := later_cell hh'
  have S2 := Lib.hid s2
  clear hA hA' hb1 hb2 hb3 hc hr hc' hr' p1 p2 hh hh' hv' hu' s2
  go_wp2_with fail
  refine wp_region_later (by kernel_rfl) (by kernel_rfl) ?_
  repeat (go_big_quiet_step (first
    | (go_at_call 23; exact same_q _ (by assumption) (by assumption) (by assumption))
    | (go_at_call 24; exact later_call _ (S2.out _))
    | (go_at_call 16; exact later_call _ (known_calls _))))
  refine wpQuiet_nil ?_
  intro q
  go_wp2_with fail
  go_ret
  exact ⟨rfl, below_more hb.out q.hb⟩
end Go.Proofs.Ytekhogoggfacaaa
