/- Contracts of judge.Atmost, the reference's Atmost and SameOut. -/
import Derived.Test.YtmdggodkkkihhaaJgHl
set_option linter.unusedVariables false
namespace Go.Proofs.Ytmdggodkkkihhaa
open Go.RowKit

def pBad (a b : Ou) (i : Nat) : Bool := a.proceed.getD i false && !b.proceed.getD i false
def rBad (a b : Ou) (i : Nat) : Bool := decide (a.drive.getD i 0 ≠ 0) && decide (a.drive.getD i 0 ≠ b.drive.getD i 0)
/-- Is nothing told that is not told of the other one? -/
def atmostM (a b : Ou) : Bool := decide (a.drive.length = b.drive.length) && decide (a.proceed.length = b.proceed.length) && !((List.range a.proceed.length).any (pBad a b)) && !((List.range a.drive.length).any (rBad a b))
section
variable {a b : Ou} {A B C D : Option Addr} {n c m d p pc q qc : Nat}
set_option maxHeartbeats 8000000 in
theorem Atmost_calls (w : World) (ha : OuV w a A B n c m d) (hb : OuV w b C D p pc q qc) :
    Calls Try.prog 9 #[.agg #[.slice A n c, .slice B m d], .agg #[.slice C p pc, .slice D q qc]] w fun e w' => e = .returned (.bool (atmostM a b)) ∧ Below w.heap.size w w' := by
  have e1 := ha.drive.len
  have e2 := ha.proceed.len
  have e3 := hb.drive.len
  have e4 := hb.proceed.len
  have hbw : Below w.heap.size w ((w.alloc (.cells #[.slice A n c, .slice B m d] 25)).alloc (.cells #[.slice C p pc, .slice D q qc] 25)) := (below_new w _).alloc (by simp) _
  have hB1 := (Blk.new w #[.slice A n c, .slice B m d] 25 (0, 0)).alloc (.cells #[.slice C p pc, .slice D q qc] 25)
  have hB2 := Blk.at_ (w := w.alloc (.cells #[.slice A n c, .slice B m d] 25)) (g := w.heap.size + 1) (by simp) #[.slice C p pc, .slice D q qc] 25 (0, 0)
  have a0 := hB1.cell 0
  have a1 := hB1.cell 1
  have b0 := hB2.cell 0
  have b1 := hB2.cell 1
  simp only [List.getElem?_toArray, List.getElem?_cons_zero, List.getElem?_cons_succ] at a0 a1 b0 b1
  by_cases h1 : n = p
  case neg =>
    have h1' : ((n : Int) != (p : Int)) = true := by simp; omega
    have HF : Hid (atmostM a b = false) := Lib.hid (by unfold atmostM; rw [decide_eq_false (by omega)]; simp)
    clear h1 ha hb e1 e2 e3 e4 hB1 hB2
    go_enter Try.func9, Try.ntmps9
    go_wp2_with fail
    go_ret
    exact ⟨ret_bool (by rw [HF.out]), hbw⟩
  case pos =>
  by_cases h2 : m = q
  case neg =>
    have h1' : ((n : Int) != (p : Int)) = false := by simp; omega
    have h2' : ((m : Int) != (q : Int)) = true := by simp; omega
    have HF : Hid (atmostM a b = false) := Lib.hid (by unfold atmostM; rw [decide_eq_false (p := a.proceed.length = b.proceed.length) (by omega)]; simp)
    clear h1 h2 ha hb e1 e2 e3 e4 hB1 hB2
    go_enter Try.func9, Try.ntmps9
    go_wp2_with fail
    go_ret
    exact ⟨ret_bool (by rw [HF.out]), hbw⟩
  case pos =>
    have h1' : ((n : Int) != (p : Int)) = false := by simp; omega
    have h2' : ((m : Int) != (q : Int)) = false := by simp; omega
    have HF : Hid (atmostM a b = (!((List.range m).any (pBad a b)) && !((List.range n).any (rBad a b)))) := Lib.hid (by
      unfold atmostM
      rw [decide_eq_true (by omega : a.drive.length = b.drive.length), decide_eq_true (by omega : a.proceed.length = b.proceed.length), e1, e2]
      simp)
    have HE : Hid (n = p ∧ m = q) := Lib.hid ⟨h1, h2⟩
    have HA := Lib.hid (ha.stay hbw)
    have HB := Lib.hid (hb.stay hbw)
    have HW := Lib.hid hbw
    have hn := Nat.le_trans ha.drive.le ha.drive.cap
    have hm := Nat.le_trans ha.proceed.le ha.proceed.cap
    have hp := Nat.le_trans hb.drive.le hb.drive.cap
    have hq := Nat.le_trans hb.proceed.le hb.proceed.cap
    clear h1 h2 ha hb e1 e2 e3 e4 hB1 hB2
    go_enter Try.func9, Try.ntmps9
    go_wp2_with fail
    generalize ((w.alloc (.cells #[.slice A n c, .slice B m d] 25)).alloc (.cells #[.slice C p pc, .slice D q qc] 25)) = W0 at *
    generalize hgn : w.heap.size = gn at *
    have HGN := Lib.hid hgn
    clear hgn hbw h1' h2'
    go_loopw [28] (fun i wr => wr = W0 ∧ ∃ j : Nat, j ≤ m ∧ i = .int .i64 j ∧ Hid (∀ s, s < j → pBad a b s = false)) (fun i _ => m - (intOf i).toNat)
    case atStart => exact ⟨rfl, 0, by omega, rfl, Lib.hid fun j hj => absurd hj (by omega)⟩
    case round =>
      obtain ⟨hwr, j, hj, rfl, hr⟩ := hrel
      obtain rfl : W0 = wr := hwr.symm
      by_cases hlt : j < m
      · obtain ⟨ba, oa, x, rfl, hx, cx⟩ := HA.out.proceed.tru hlt
        obtain ⟨bb, ob, y, rfl, hy, cy⟩ := HB.out.proceed.tru (j := j) (by have := HE.out; omega)
        have HX : Hid (pBad a b j = (x && !y)) := Lib.hid (by unfold pBad; rw [getD_of hx, getD_of hy])
        have hjq : (j : Int) < q := by have := HE.out; omega
        clear hx hy
        cases x with
        | false =>
          have HN := Lib.hid (no_more hr.out (by rw [HX.out]; rfl))
          go_wp2_with fail
          go_roundw
          case rel => exact ⟨by first | trivial | rfl, j + 1, by omega, by go_num, Lib.hid HN.out⟩
          case measure => simp [intOf]; omega
        | true =>
          cases y with
          | true =>
            have HN := Lib.hid (no_more hr.out (by rw [HX.out]; rfl))
            go_wp2_with fail
            go_roundw
            case rel => exact ⟨by first | trivial | rfl, j + 1, by omega, by go_num, Lib.hid HN.out⟩
            case measure => simp [intOf]; omega
          | false =>
            have HY := Lib.hid (range_any_at hlt (show pBad a b j = true by rw [HX.out]; rfl))
            go_wp2_with fail
            go_ret
            exact ⟨ret_bool (by rw [HF.out, HY.out]; rfl), by rw [HGN.out]; exact HW.out⟩
      · obtain rfl : j = m := by omega
        have HY1 := Lib.hid (range_any_no hr.out)
        clear hlt hr
        go_wp2_with fail
        go_loopw [46] (fun i wr => wr = W0 ∧ ∃ j : Nat, j ≤ n ∧ i = .int .i64 j ∧ Hid (∀ s, s < j → rBad a b s = false)) (fun i _ => n - (intOf i).toNat)
        case atStart => exact ⟨by first | trivial | rfl, 0, by omega, by first | trivial | rfl, Lib.hid fun j hj => absurd hj (by omega)⟩
        case round =>
          obtain ⟨hwr, k, hk, rfl, hr⟩ := hrel
          obtain rfl : W0 = wr := hwr.symm
          by_cases hlt : k < n
          · obtain ⟨ba, oa, x, rfl, hx, cx⟩ := HA.out.drive.int hlt
            obtain ⟨bb, ob, y, rfl, hy, cy⟩ := HB.out.drive.int (j := k) (by have := HE.out; omega)
            have HX : Hid (rBad a b k = (decide (x ≠ 0) && decide (x ≠ y))) := Lib.hid (by unfold rBad; rw [getD_of hx, getD_of hy])
            have hjq : (k : Int) < p := by have := HE.out; omega
            clear hx hy
            by_cases hx0 : x = 0
            · have HN := Lib.hid (no_more hr.out (by rw [HX.out, hx0]; rfl))
              have hx1 : (x != 0) = false := by simp [hx0]
              clear hx0
              go_wp2_with fail
              go_roundw
              case rel => exact ⟨by first | trivial | rfl, k + 1, by omega, by go_num, Lib.hid HN.out⟩
              case measure => simp [intOf]; omega
            · have hx1 : (x != 0) = true := by simp [hx0]
              by_cases hxy : x = y
              · have HN := Lib.hid (no_more hr.out (by rw [HX.out, hxy]; simp))
                have hx2 : (x != y) = false := by simp [hxy]
                clear hx0 hxy
                go_wp2_with fail
                go_roundw
                case rel => exact ⟨by first | trivial | rfl, k + 1, by omega, by go_num, Lib.hid HN.out⟩
                case measure => simp [intOf]; omega
              · have HY := Lib.hid (range_any_at hlt (show rBad a b k = true by rw [HX.out]; simp [hx0, hxy]))
                have hx2 : (x != y) = true := by simp [hxy]
                clear hx0 hxy
                go_wp2_with fail
                go_ret
                exact ⟨ret_bool (by rw [HF.out, HY.out]; simp), by rw [HGN.out]; exact HW.out⟩
          · obtain rfl : k = n := by omega
            have HY2 := Lib.hid (range_any_no hr.out)
            clear hlt hr
            go_wp2_with fail
            go_ret
            exact ⟨ret_bool (by rw [HF.out, HY1.out, HY2.out]; rfl), by rw [HGN.out]; exact HW.out⟩
end
end Go.Proofs.Ytmdggodkkkihhaa
