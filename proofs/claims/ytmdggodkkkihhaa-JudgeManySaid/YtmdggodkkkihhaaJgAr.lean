/- Contracts of the reference's Atmost and SameOut. -/
import Derived.Test.YtmdggodkkkihhaaJgAt
set_option linter.unusedVariables false
namespace Go.Proofs.Ytmdggodkkkihhaa
open Go.RowKit

def qBad (a b : Ou) (i : Nat) : Bool := a.proceed.getD i false != b.proceed.getD i false
def sBad (a b : Ou) (i : Nat) : Bool := decide (a.drive.getD i 0 ≠ b.drive.getD i 0)
/-- Are the two one? -/
def sameM (a b : Ou) : Bool := decide (a.drive.length = b.drive.length) && decide (a.proceed.length = b.proceed.length) && !((List.range a.proceed.length).any (qBad a b)) && !((List.range a.drive.length).any (sBad a b))
section
variable {a b : Ou} {A B C D : Option Addr} {n c m d p pc q qc : Nat}
set_option maxHeartbeats 8000000 in
theorem RefAtmost_calls (w : World) (ha : OuV w a A B n c m d) (hb : OuV w b C D p pc q qc) :
    Calls Try.prog 10 #[.agg #[.slice A n c, .slice B m d], .agg #[.slice C p pc, .slice D q qc]] w fun e w' => e = .returned (.bool (atmostM a b)) ∧ Below w.heap.size w w' := by
  have e1 := ha.drive.len
  have e2 := ha.proceed.len
  have e3 := hb.drive.len
  have e4 := hb.proceed.len
  have hbw : Below w.heap.size w ((w.alloc (.cells #[.slice A n c, .slice B m d] 25)).alloc (.cells #[.slice C p pc, .slice D q qc] 25)) := (below_new w _).alloc (by simp) _
  have hB1 := (Blk.new w #[.slice A n c, .slice B m d] 25 (0, 0)).alloc (.cells #[.slice C p pc, .slice D q qc] 25)
  have hB2 := Blk.at_ (w := w.alloc (.cells #[.slice A n c, .slice B m d] 25)) (g := w.heap.size + 1) (by simp) #[.slice C p pc, .slice D q qc] 25 (0, 0)
  have a0 := hB1.cell 0
  have a1 := hB1.cell 1
  have b0 := hB2.cell 0
  have b1 := hB2.cell 1
  simp only [List.getElem?_toArray, List.getElem?_cons_zero, List.getElem?_cons_succ] at a0 a1 b0 b1
  by_cases h1 : n = p
  case neg =>
    have h1' : ((n : Int) != (p : Int)) = true := by simp; omega
    have HF : Hid (atmostM a b = false) := Lib.hid (by unfold atmostM; rw [decide_eq_false (by omega)]; simp)
    clear h1 ha hb e1 e2 e3 e4 hB1 hB2
    go_enter Try.func10, Try.ntmps10
    go_wp2_with fail
    go_ret
    exact ⟨ret_bool (by rw [HF.out]), hbw⟩
  case pos =>
  by_cases h2 : m = q
  case neg =>
    have h1' : ((n : Int) != (p : Int)) = false := by simp; omega
    have h2' : ((m : Int) != (q : Int)) = true := by simp; omega
    have HF : Hid (atmostM a b = false) := Lib.hid (by unfold atmostM; rw [decide_eq_false (p := a.proceed.length = b.proceed.length) (by omega)]; simp)
    clear h1 h2 ha hb e1 e2 e3 e4 hB1 hB2
    go_enter Try.func10, Try.ntmps10
    go_wp2_with fail
    go_ret
    exact ⟨ret_bool (by rw [HF.out]), hbw⟩
  case pos =>
    have h1' : ((n : Int) != (p : Int)) = false := by simp; omega
    have h2' : ((m : Int) != (q : Int)) = false := by simp; omega
    have HF : Hid (atmostM a b = (!((List.range m).any (pBad a b)) && !((List.range n).any (rBad a b)))) := Lib.hid (by
      unfold atmostM
      rw [decide_eq_true (by omega : a.drive.length = b.drive.length), decide_eq_true (by omega : a.proceed.length = b.proceed.length), e1, e2]
      simp)
    have HE : Hid (n = p ∧ m = q) := Lib.hid ⟨h1, h2⟩
    have HA := Lib.hid (ha.stay hbw)
    have HB := Lib.hid (hb.stay hbw)
    have HW := Lib.hid hbw
    have hn := Nat.le_trans ha.drive.le ha.drive.cap
    have hm := Nat.le_trans ha.proceed.le ha.proceed.cap
    have hp := Nat.le_trans hb.drive.le hb.drive.cap
    have hq := Nat.le_trans hb.proceed.le hb.proceed.cap
    clear h1 h2 ha hb e1 e2 e3 e4 hB1 hB2
    go_enter Try.func10, Try.ntmps10
    go_wp2_with fail
    generalize ((w.alloc (.cells #[.slice A n c, .slice B m d] 25)).alloc (.cells #[.slice C p pc, .slice D q qc] 25)) = W0 at *
    generalize hgn : w.heap.size = gn at *
    have HGN := Lib.hid hgn
    clear hgn hbw h1' h2'
    go_loopw [5] (fun i wr => ∃ j : Nat, j ≤ n ∧ i = .int .i64 j ∧ Hid (Below W0.heap.size W0 wr ∧ ∀ s, s < j → rBad a b s = false)) (fun i _ => n - (intOf i).toNat)
    case atStart => exact ⟨0, by omega, rfl, Lib.hid ⟨Below.refl _ _, fun j hj => absurd hj (by omega)⟩⟩
    case round =>
      obtain ⟨k, hk, rfl, hr⟩ := hrel
      have a0 := cell_stay hr.out.1 a0
      have a1 := cell_stay hr.out.1 a1
      have b0 := cell_stay hr.out.1 b0
      have b1 := cell_stay hr.out.1 b1
      by_cases hlt : k < n
      · obtain ⟨ba, oa, x, rfl, hx, cx⟩ := HA.out.drive.int hlt
        obtain ⟨bb, ob, y, rfl, hy, cy⟩ := HB.out.drive.int (j := k) (by have := HE.out; omega)
        have HX : Hid (rBad a b k = (decide (x ≠ 0) && decide (x ≠ y))) := Lib.hid (by unfold rBad; rw [getD_of hx, getD_of hy])
        have hjq : (k : Int) < p := by have := HE.out; omega
        have cx := cell_stay hr.out.1 cx
        have cy := cell_stay hr.out.1 cy
        clear hx hy
        by_cases hx0 : x = 0
        · have HN := Lib.hid (no_more hr.out.2 (by rw [HX.out, hx0]; rfl))
          have hx1 : (x != 0) = false := by simp [hx0]
          clear hx0
          go_wp2_with fail
          go_quiet (fail)
          go_wp2_with fail
          go_roundw
          case rel => exact ⟨k + 1, by omega, by go_num, Lib.hid ⟨below_drawn hr.out.1 _, HN.out⟩⟩
          case measure => simp [intOf]; omega
        · have hx1 : (x != 0) = true := by simp [hx0]
          by_cases hxy : x = y
          · have HN := Lib.hid (no_more hr.out.2 (by rw [HX.out, hxy]; simp))
            have hx2 : (x != y) = false := by simp [hxy]
            clear hx0 hxy
            go_wp2_with fail
            go_quiet (fail)
            go_wp2_with fail
            go_roundw
            case rel => exact ⟨k + 1, by omega, by go_num, Lib.hid ⟨below_drawn hr.out.1 _, HN.out⟩⟩
            case measure => simp [intOf]; omega
          · have HY := Lib.hid (range_any_at hlt (show rBad a b k = true by rw [HX.out]; simp [hx0, hxy]))
            have hx2 : (x != y) = true := by simp [hxy]
            clear hx0 hxy
            go_wp2_with fail
            go_quiet (fail)
            go_wp2_with fail
            go_ret
            exact ⟨ret_bool (by rw [HF.out, HY.out]; simp), below_more (by rw [HGN.out]; exact HW.out) (below_drawn hr.out.1 _)⟩
      · obtain rfl : k = n := by omega
        have HY1 := Lib.hid (range_any_no hr.out.2)
        have hb5 := hr.out.1
        clear hlt hr
        go_wp2_with fail
        generalize hw5 : wr = w5 at *
        clear hw5
        go_loopw [6] (fun i wr => wr = w5 ∧ ∃ j : Nat, j ≤ m ∧ i = .int .i64 j ∧ Hid (∀ s, s < j → pBad a b s = false)) (fun i _ => m - (intOf i).toNat)
        case atStart => exact ⟨by first | trivial | rfl, 0, by omega, by first | trivial | rfl, Lib.hid fun j hj => absurd hj (by omega)⟩
        case round =>
          obtain ⟨hwr, j, hj, rfl, hr⟩ := hrel
          obtain rfl : w5 = wr := hwr.symm
          by_cases hlt : j < m
          · obtain ⟨ba, oa, x, rfl, hx, cx⟩ := HA.out.proceed.tru hlt
            obtain ⟨bb, ob, y, rfl, hy, cy⟩ := HB.out.proceed.tru (j := j) (by have := HE.out; omega)
            have HX : Hid (pBad a b j = (x && !y)) := Lib.hid (by unfold pBad; rw [getD_of hx, getD_of hy])
            have hjq : (j : Int) < q := by have := HE.out; omega
            have cx := cell_stay hb5 cx
            have cy := cell_stay hb5 cy
            clear hx hy
            cases x with
            | false =>
              have HN := Lib.hid (no_more hr.out (by rw [HX.out]; rfl))
              go_wp2_with fail
              go_roundw
              case rel => exact ⟨by first | trivial | rfl, j + 1, by omega, by go_num, Lib.hid HN.out⟩
              case measure => simp [intOf]; omega
            | true =>
              cases y with
              | true =>
                have HN := Lib.hid (no_more hr.out (by rw [HX.out]; rfl))
                go_wp2_with fail
                go_roundw
                case rel => exact ⟨by first | trivial | rfl, j + 1, by omega, by go_num, Lib.hid HN.out⟩
                case measure => simp [intOf]; omega
              | false =>
                have HY := Lib.hid (range_any_at hlt (show pBad a b j = true by rw [HX.out]; rfl))
                go_wp2_with fail
                go_ret
                exact ⟨ret_bool (by rw [HF.out, HY.out]; simp), below_more (by rw [HGN.out]; exact HW.out) hb5⟩
          · obtain rfl : j = m := by omega
            have HY2 := Lib.hid (range_any_no hr.out)
            clear hlt hr
            go_wp2_with fail
            go_ret
            exact ⟨ret_bool (by rw [HF.out, HY1.out, HY2.out]; rfl), below_more (by rw [HGN.out]; exact HW.out) hb5⟩
set_option maxHeartbeats 8000000 in
theorem SameOut_calls (w : World) (ha : OuV w a A B n c m d) (hb : OuV w b C D p pc q qc) :
    Calls Try.prog 11 #[.agg #[.slice A n c, .slice B m d], .agg #[.slice C p pc, .slice D q qc]] w fun e w' => e = .returned (.bool (sameM a b)) ∧ Below w.heap.size w w' := by
  have e1 := ha.drive.len
  have e2 := ha.proceed.len
  have e3 := hb.drive.len
  have e4 := hb.proceed.len
  have hbw : Below w.heap.size w ((w.alloc (.cells #[.slice A n c, .slice B m d] 25)).alloc (.cells #[.slice C p pc, .slice D q qc] 25)) := (below_new w _).alloc (by simp) _
  have hB1 := (Blk.new w #[.slice A n c, .slice B m d] 25 (0, 0)).alloc (.cells #[.slice C p pc, .slice D q qc] 25)
  have hB2 := Blk.at_ (w := w.alloc (.cells #[.slice A n c, .slice B m d] 25)) (g := w.heap.size + 1) (by simp) #[.slice C p pc, .slice D q qc] 25 (0, 0)
  have a0 := hB1.cell 0
  have a1 := hB1.cell 1
  have b0 := hB2.cell 0
  have b1 := hB2.cell 1
  simp only [List.getElem?_toArray, List.getElem?_cons_zero, List.getElem?_cons_succ] at a0 a1 b0 b1
  by_cases h1 : n = p
  case neg =>
    have h1' : ((n : Int) != (p : Int)) = true := by simp; omega
    have HF : Hid (sameM a b = false) := Lib.hid (by unfold sameM; rw [decide_eq_false (by omega)]; simp)
    clear h1 ha hb e1 e2 e3 e4 hB1 hB2
    go_enter Try.func11, Try.ntmps11
    go_wp2_with fail
    go_ret
    exact ⟨ret_bool (by rw [HF.out]), hbw⟩
  case pos =>
  by_cases h2 : m = q
  case neg =>
    have h1' : ((n : Int) != (p : Int)) = false := by simp; omega
    have h2' : ((m : Int) != (q : Int)) = true := by simp; omega
    have HF : Hid (sameM a b = false) := Lib.hid (by unfold sameM; rw [decide_eq_false (p := a.proceed.length = b.proceed.length) (by omega)]; simp)
    clear h1 h2 ha hb e1 e2 e3 e4 hB1 hB2
    go_enter Try.func11, Try.ntmps11
    go_wp2_with fail
    go_ret
    exact ⟨ret_bool (by rw [HF.out]), hbw⟩
  case pos =>
    have h1' : ((n : Int) != (p : Int)) = false := by simp; omega
    have h2' : ((m : Int) != (q : Int)) = false := by simp; omega
    have HF : Hid (sameM a b = (!((List.range m).any (qBad a b)) && !((List.range n).any (sBad a b)))) := Lib.hid (by
      unfold sameM
      rw [decide_eq_true (by omega : a.drive.length = b.drive.length), decide_eq_true (by omega : a.proceed.length = b.proceed.length), e1, e2]
      simp)
    have HE : Hid (n = p ∧ m = q) := Lib.hid ⟨h1, h2⟩
    have HA := Lib.hid (ha.stay hbw)
    have HB := Lib.hid (hb.stay hbw)
    have HW := Lib.hid hbw
    have hn := Nat.le_trans ha.drive.le ha.drive.cap
    have hm := Nat.le_trans ha.proceed.le ha.proceed.cap
    have hp := Nat.le_trans hb.drive.le hb.drive.cap
    have hq := Nat.le_trans hb.proceed.le hb.proceed.cap
    clear h1 h2 ha hb e1 e2 e3 e4 hB1 hB2
    go_enter Try.func11, Try.ntmps11
    go_wp2_with fail
    generalize ((w.alloc (.cells #[.slice A n c, .slice B m d] 25)).alloc (.cells #[.slice C p pc, .slice D q qc] 25)) = W0 at *
    generalize hgn : w.heap.size = gn at *
    have HGN := Lib.hid hgn
    clear hgn hbw h1' h2'
    go_loopw [5] (fun i wr => ∃ j : Nat, j ≤ n ∧ i = .int .i64 j ∧ Hid (Below W0.heap.size W0 wr ∧ ∀ s, s < j → sBad a b s = false)) (fun i _ => n - (intOf i).toNat)
    case atStart => exact ⟨0, by omega, rfl, Lib.hid ⟨Below.refl _ _, fun j hj => absurd hj (by omega)⟩⟩
    case round =>
      obtain ⟨k, hk, rfl, hr⟩ := hrel
      have a0 := cell_stay hr.out.1 a0
      have a1 := cell_stay hr.out.1 a1
      have b0 := cell_stay hr.out.1 b0
      have b1 := cell_stay hr.out.1 b1
      by_cases hlt : k < n
      · obtain ⟨ba, oa, x, rfl, hx, cx⟩ := HA.out.drive.int hlt
        obtain ⟨bb, ob, y, rfl, hy, cy⟩ := HB.out.drive.int (j := k) (by have := HE.out; omega)
        have HX : Hid (sBad a b k = (decide (x ≠ y))) := Lib.hid (by unfold sBad; rw [getD_of hx, getD_of hy])
        have hjq : (k : Int) < p := by have := HE.out; omega
        have cx := cell_stay hr.out.1 cx
        have cy := cell_stay hr.out.1 cy
        clear hx hy
        by_cases hxy : x = y
        · have HN := Lib.hid (no_more hr.out.2 (by rw [HX.out, hxy]; simp))
          have hx2 : (x != y) = false := by simp [hxy]
          clear hxy
          go_wp2_with fail
          go_quiet (fail)
          go_wp2_with fail
          go_roundw
          case rel => exact ⟨k + 1, by omega, by go_num, Lib.hid ⟨below_drawn hr.out.1 _, HN.out⟩⟩
          case measure => simp [intOf]; omega
        · have HY := Lib.hid (range_any_at hlt (show sBad a b k = true by rw [HX.out]; simp [hxy]))
          have hx2 : (x != y) = true := by simp [hxy]
          clear hxy
          go_wp2_with fail
          go_quiet (fail)
          go_wp2_with fail
          go_ret
          exact ⟨ret_bool (by rw [HF.out, HY.out]; simp), below_more (by rw [HGN.out]; exact HW.out) (below_drawn hr.out.1 _)⟩
      · obtain rfl : k = n := by omega
        have HY1 := Lib.hid (range_any_no hr.out.2)
        have HB5 := Lib.hid hr.out.1
        clear hlt hr
        go_wp2_with fail
        generalize hw5 : wr = w5 at *
        clear hw5
        go_loopw [6] (fun i wr => ∃ j : Nat, j ≤ m ∧ i = .int .i64 j ∧ Hid (Below w5.heap.size w5 wr ∧ ∀ s, s < j → qBad a b s = false)) (fun i _ => m - (intOf i).toNat)
        case atStart => exact ⟨0, by omega, by first | trivial | rfl, Lib.hid ⟨Below.refl _ _, fun j hj => absurd hj (by omega)⟩⟩
        case round =>
          obtain ⟨j, hj, rfl, hr⟩ := hrel
          have a0 := cell_stay hr.out.1 a0
          have a1 := cell_stay hr.out.1 a1
          have b0 := cell_stay hr.out.1 b0
          have b1 := cell_stay hr.out.1 b1
          by_cases hlt : j < m
          · obtain ⟨ba, oa, x, rfl, hx, cx⟩ := HA.out.proceed.tru hlt
            obtain ⟨bb, ob, y, rfl, hy, cy⟩ := HB.out.proceed.tru (j := j) (by have := HE.out; omega)
            have HX : Hid (qBad a b j = (x != y)) := Lib.hid (by unfold qBad; rw [getD_of hx, getD_of hy])
            have hjq : (j : Int) < q := by have := HE.out; omega
            have cx := cell_stay (below_more HB5.out hr.out.1) cx
            have cy := cell_stay (below_more HB5.out hr.out.1) cy
            clear hx hy
            cases x <;> cases y
            · have HN := Lib.hid (no_more hr.out.2 HX.out)
              go_wp2_with fail
              go_quiet (fail)
              go_wp2_with fail
              go_roundw
              case rel => exact ⟨j + 1, by omega, by go_num, Lib.hid ⟨below_drawn hr.out.1 _, HN.out⟩⟩
              case measure => simp [intOf]; omega
            · have HY := Lib.hid (range_any_at hlt HX.out)
              go_wp2_with fail
              go_quiet (fail)
              go_wp2_with fail
              go_ret
              exact ⟨ret_bool (by rw [HF.out, HY.out]; simp), below_more (by rw [HGN.out]; exact HW.out) (below_more HB5.out (below_drawn hr.out.1 _))⟩
            · have HY := Lib.hid (range_any_at hlt HX.out)
              go_wp2_with fail
              go_quiet (fail)
              go_wp2_with fail
              go_ret
              exact ⟨ret_bool (by rw [HF.out, HY.out]; simp), below_more (by rw [HGN.out]; exact HW.out) (below_more HB5.out (below_drawn hr.out.1 _))⟩
            · have HN := Lib.hid (no_more hr.out.2 HX.out)
              go_wp2_with fail
              go_quiet (fail)
              go_wp2_with fail
              go_roundw
              case rel => exact ⟨j + 1, by omega, by go_num, Lib.hid ⟨below_drawn hr.out.1 _, HN.out⟩⟩
              case measure => simp [intOf]; omega
          · obtain rfl : j = m := by omega
            have HY2 := Lib.hid (range_any_no hr.out.2)
            clear hlt
            go_wp2_with fail
            go_ret
            exact ⟨ret_bool (by rw [HF.out, HY1.out, HY2.out]; rfl), below_more (by rw [HGN.out]; exact HW.out) (below_more HB5.out hr.out.1)⟩
end
end Go.Proofs.Ytmdggodkkkihhaa
