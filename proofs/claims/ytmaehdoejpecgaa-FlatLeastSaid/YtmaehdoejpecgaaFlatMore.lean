/- Walks of the laws FlatApplies, FlatOwn, FlatChains. -/
import Derived.Test.YtmaehdoejpecgaaFlatKn
set_option linter.unusedVariables false
namespace Go.Proofs.Ytmaehdoejpecgaa
open Go.ChangeShapes Go.WideShapes Go.ChangeAt Go.RowKit

set_option maxHeartbeats 2000000 in
theorem applies_calls (A L : Option Addr) (n m c d : Nat) (xs : List Int) (cs : List Chg) (w : World) (hA : Rf flI w A n xs) (hL : Rf flC w L m cs) :
    Calls Try.prog 5 #[.slice A n c, .slice L m d] w fun e w' => e = .returned (.bool true) ∧ Below w.heap.size w w' := by
  have hn0 := hA.2.1
  have hm0 := hL.2.1
  by_cases h1 : (200 : Int) < n
  · go_enter Try.func5, Try.ntmps5
    go_wp2
    go_ret
    exact ⟨rfl, Below.refl _ _⟩
  by_cases h2 : (200 : Int) < m
  · go_enter Try.func5, Try.ntmps5
    go_wp2
    go_ret
    exact ⟨rfl, Below.refl _ _⟩
  have HA := Lib.hid hA
  have HL := Lib.hid hL
  clear hA hL
  go_enter Try.func5, Try.ntmps5
  go_wp2_with fail
  refine (Apply_calls A L n m c d xs cs w HA.out HL.out (by omega)).mono ?_
  rintro e w1 (⟨ys, v, hz, rfl, o1, b1⟩ | ⟨hz, rfl, b1⟩)
  · obtain ⟨A1, c1, rfl, R1⟩ := o1.read (by decide)
    have HZ := Lib.hid hz
    have Hb1 := Lib.hid b1
    have HR1 := Lib.hid R1
    clear o1 hz b1 R1
    go_wp2_with fail
    refine (RefApply_calls A L n m c d xs cs w1 (HA.out.stay Hb1.out) (HL.out.stay Hb1.out) (by omega)).mono ?_
    rintro e w2 (⟨zs, v, hz, rfl, o2, b2⟩ | ⟨hz, _, _⟩)
    · have hzy : zs = ys := by rw [HZ.out] at hz; exact (Option.some.inj hz).symm
      subst hzy
      obtain ⟨A2, c2, rfl, R2⟩ := o2.read (by decide)
      have HR2 := Lib.hid R2
      have HR1' := Lib.hid (HR1.out.stay b2)
      have Hb2 := Lib.hid (below_more Hb1.out b2)
      clear o2 hz b2 R2
      go_wp2_with fail
      refine (Ints_calls A1 A2 _ _ c1 c2 zs zs w2 HR1'.out HR2.out).mono ?_
      rintro e w3 ⟨rfl, b3⟩
      rw [show decide (zs = zs) = true from decide_eq_true rfl]
      go_wp2_with fail
      refine (known_calls _).mono ?_
      rintro e w4 ⟨rfl, b4⟩
      go_wp2_with fail
      go_ret
      exact ⟨rfl, below_more (below_more Hb2.out b3) b4⟩
    · rw [HZ.out] at hz; cases hz
  · have HZ := Lib.hid hz
    have Hb1 := Lib.hid b1
    clear hz b1
    go_wp2_with fail
    refine (RefApply_calls A L n m c d xs cs w1 (HA.out.stay Hb1.out) (HL.out.stay Hb1.out) (by omega)).mono ?_
    rintro e w2 (⟨zs, v, hz, _⟩ | ⟨hz, rfl, b2⟩)
    · rw [HZ.out] at hz; cases hz
    · have Hb2 := Lib.hid (below_more Hb1.out b2)
      clear hz b2
      go_wp2_with fail
      refine (Ints_calls none none 0 0 0 0 [] [] w2 (Rf.nil_ _ _ _) (Rf.nil_ _ _ _)).mono ?_
      rintro e w3 ⟨rfl, b3⟩
      rw [show decide (([] : List Int) = []) = true from decide_eq_true rfl]
      go_wp2_with fail
      refine (known_calls _).mono ?_
      rintro e w4 ⟨rfl, b4⟩
      go_wp2_with fail
      go_ret
      exact ⟨rfl, below_more (below_more Hb2.out b3) b4⟩

set_option maxHeartbeats 2000000 in
theorem own_calls (A L : Option Addr) (n m c d : Nat) (xs : List Int) (cs : List Chg) (w : World) (hA : Rf flI w A n xs) (hL : Rf flC w L m cs) :
    Calls Try.prog 7 #[.slice A n c, .slice L m d] w fun e w' => e = .returned (.bool true) ∧ Below w.heap.size w w' := by
  obtain ⟨i0, hi0, hz0, hz1, hz2⟩ := info_parts info_int
  have hn0 := hA.2.1
  have hm0 := hL.2.1
  by_cases h1 : (100 : Int) < n
  · go_enter Try.func7, Try.ntmps7
    go_wp2
    go_ret
    exact ⟨rfl, Below.refl _ _⟩
  by_cases h2 : (100 : Int) < m
  · go_enter Try.func7, Try.ntmps7
    go_wp2
    go_ret
    exact ⟨rfl, Below.refl _ _⟩
  have HA := Lib.hid hA
  have HL := Lib.hid hL
  have H1 := Lib.hid (rf_n hA)
  clear hA hL
  go_enter Try.func7, Try.ntmps7
  go_wp2_with (at_builtin; refine wpList_append_any _ rfl (.tmp 17) (.tmp 18) _ rfl w.heap.size 3 i0 _ 1 8 Try.underlying22 hi0 hz0 hz1 hz2 rfl (by omega) (.slice (some ⟨w.heap.size, 0, none⟩) 0 0) 0 [] rfl (Ow.empty flI w w.heap.size 3 (Nat.le_refl _)) w.heap.size A n c (xs.flatMap flI.enc) rfl ((HA.out.reads (by decide)).alloc (Nat.le_refl _) _) (flat_one flI xs) (by simp only [maxLen]; omega) (by omega) (by simp) ?_; intro v w0 hown1 hg1 hat1)
  have hb0 : Below w.heap.size w w0 := (below_new w _).grown hg1 (by simp) (fun k hk => by simp [Value.ownBlock] at hk; omega)
  have hown0 : Ow flI w0 w.heap.size 3 v xs := by
    have := Ow.join (f := flI) (xs := []) (ys := xs) (m := n) H1.out hown1
    simpa using this
  clear hown1 hg1 hat1
  obtain ⟨A0, c0, rfl, R0⟩ := hown0.read (by decide)
  have HR0 := Lib.hid R0
  have Hb0 := Lib.hid hb0
  clear R0 hb0 hown0
  refine (Apply_calls A L n m c d xs cs w0 (HA.out.stay Hb0.out) (HL.out.stay Hb0.out) (by omega)).mono ?_
  rintro e w1 (⟨ys, v, hz, rfl, o1, b1⟩ | ⟨hz, rfl, b1⟩)
  · obtain ⟨A1, c1, rfl, R1⟩ := o1.read (by decide)
    have hys := o1.room (by decide)
    have Ho1 := Lib.hid o1
    have Hb1 := Lib.hid b1
    clear hz R1 o1 b1
    go_wp2_with fail
    go_loopw [8] (fun i wr => ∃ (k : Nat) (zs : List Int), k ≤ ys.length ∧ i = .int .i64 k ∧ Ow flI wr w0.heap.size 3 (.slice A1 ys.length c1) zs ∧ Hid (zs.length = ys.length) ∧ Below w0.heap.size w0 wr) (fun i _ => ys.length - (intOf i).toNat)
    case atStart => exact ⟨0, ys, by omega, rfl, Ho1.out, Lib.hid rfl, Hb1.out⟩
    case round =>
      obtain ⟨k, zs, hk, rfl, hown, hzl, hbr⟩ := hrel
      by_cases hlt : k < ys.length
      · obtain ⟨g, cap, hv, hgb, hgl⟩ := owI_form hown hzl.out (by omega)
        injection hv with hA0 _ hc0
        subst hA0
        subst hc0
        have HO2 : Hid (Ow flI wr w0.heap.size 3 (.slice (some ⟨g, 0, none⟩) zs.length c1) zs) := by have := hown; rw [← hzl.out] at this; exact this
        have hpx : k < zs.length := by have := hzl.out; omega
        have hcell := owI_cell HO2.out k hpx
        have hfree := HO2.out.free k
        generalize zs[k] = y0 at *
        clear hown
        go_wp2_with fail
        go_roundw
        case rel =>
          refine ⟨k + 1, zs.set k (wrap64 (y0 + 1)), by omega, by go_num, ?_, Lib.hid (by rw [List.length_set]; exact hzl.out), hbr.setCell (p := ⟨g, k, none⟩) hgb _⟩
          have := (HO2.out.put1 rfl k (wrap64 (y0 + 1)) (.int .i64 (wrap64 (y0 + 1))) rfl).1
          rw [hzl.out] at this
          exact this
        case measure => simp [intOf]; omega
      · have HR := Lib.hid (HR0.out.stay hbr)
        have Hbb := Lib.hid (below_more Hb0.out hbr)
        clear hown
        go_wp2_with fail
        refine (Ints_calls A A0 n _ c c0 xs xs wr (HA.out.stay Hbb.out) HR.out).mono ?_
        rintro e w3 ⟨rfl, b3⟩
        rw [show decide (xs = xs) = true from decide_eq_true rfl]
        go_wp2_with fail
        refine (known_calls _).mono ?_
        rintro e w4 ⟨rfl, b4⟩
        go_wp2_with fail
        go_ret
        exact ⟨rfl, below_more (below_more Hbb.out b3) b4⟩
  · have HR := Lib.hid (HR0.out.stay b1)
    have Hbb := Lib.hid (below_more Hb0.out b1)
    clear hz b1
    go_wp2_with fail
    refine (Ints_calls A A0 n _ c c0 xs xs w1 (HA.out.stay Hbb.out) HR.out).mono ?_
    rintro e w3 ⟨rfl, b3⟩
    rw [show decide (xs = xs) = true from decide_eq_true rfl]
    go_wp2_with fail
    refine (known_calls _).mono ?_
    rintro e w4 ⟨rfl, b4⟩
    go_wp2_with fail
    go_ret
    exact ⟨rfl, below_more (below_more Hbb.out b3) b4⟩
end Go.Proofs.Ytmaehdoejpecgaa
