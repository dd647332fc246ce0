/- Contract of judge.bars. -/
import Derived.Test.YtmdggodkkkihhaaJgHo
set_option linter.unusedVariables false
namespace Go.Proofs.Ytmdggodkkkihhaa
open Go.RowKit

theorem enter_ba1 (args : Array Value) (w : World) : (callFunc 28 args).run Try.prog w = .ok (.enter 28 args) w := by kernel_rfl
theorem enter_ba2 (args : Array Value) (w : World) : (callFunc 30 args).run Try.prog w = .ok (.enter 30 args) w := by kernel_rfl
set_option maxHeartbeats 4000000 in
theorem Ba1_calls (W : World) (gp gt : Nat) (p ti : Int) (hp : W.cell? ⟨gp, 0, none⟩ = some (.int .i64 p)) (ht : W.cell? ⟨gt, 0, none⟩ = some (.int .i64 ti)) (x : Need) :
    Calls Try.prog 28 #[.agg #[.int .i64 x.p, .bool x.r], .pointer (some ⟨gp, 0, none⟩), .pointer (some ⟨gt, 0, none⟩)] W fun e w' => e = .returned (.bool (decide (x.p = p) && decide (posM x = ti))) ∧ Below W.heap.size W w' := by
  have hw0 := below_new W (.cells #[.int .i64 x.p, .bool x.r] 54)
  have hB := Blk.new W #[.int .i64 x.p, .bool x.r] 54 (0, 0)
  have d0 := hB.cell 0
  have d1 := hB.cell 1
  simp only [List.getElem?_toArray, List.getElem?_cons_zero, List.getElem?_cons_succ] at d0 d1
  have hp := cell_stay hw0 hp
  have ht := cell_stay hw0 ht
  have KP := fun W1 => Pos_calls W1 x
  have HN := Lib.hid hw0
  have HP : Hid (∀ W1 : World, Calls Try.prog 29 #[.agg #[.int .i64 x.p, .bool x.r]] W1 fun e w' => e = .returned (.int .i64 (posM x)) ∧ Below W1.heap.size W1 w') := Lib.hid KP
  clear hB KP
  go_enter Try.func28, Try.ntmps28
  go_upto_region 1 with fail
  generalize hgn : W.heap.size = gn at *
  have HGN := Lib.hid hgn
  clear hgn hw0
  generalize (W.alloc (.cells #[.int .i64 x.p, .bool x.r] 54)) = W0 at *
  have d0 := later_cell d0
  have d1 := later_cell d1
  have hp := later_cell hp
  have ht := later_cell ht
  by_cases hx : x.p = p
  · have hx1 : (x.p == p) = true := by simp [hx]
    have HF : Hid (decide (x.p = p) = true) := Lib.hid (by simp [hx])
    clear hx
    refine wp_region_later (by kernel_rfl) (by kernel_rfl) ?_
    repeat (go_big_quiet_step (first
      | (go_at_call 29; rename_i q; exact later_call q (HP.out q.w1))
      | fail))
    refine wpQuiet_nil ?_
    intro q
    go_wp2_with fail
    go_ret
    exact ⟨ret_bool (by rw [HF.out]; simp [BEq.beq]), below_more (by rw [HGN.out]; exact HN.out) q.hb⟩
  · have hx1 : (x.p == p) = false := by simp [hx]
    have HF : Hid (decide (x.p = p) = false) := Lib.hid (by simp [hx])
    clear hx
    refine wp_region_later (by kernel_rfl) (by kernel_rfl) ?_
    repeat (go_big_quiet_step (fail))
    refine wpQuiet_nil ?_
    intro q
    go_wp2_with fail
    go_ret
    exact ⟨ret_bool (by rw [HF.out]; rfl), below_more (by rw [HGN.out]; exact HN.out) q.hb⟩
set_option maxHeartbeats 4000000 in
theorem Ba2_calls (W : World) (gp gt : Nat) (p ti : Int) (hp : W.cell? ⟨gp, 0, none⟩ = some (.int .i64 p)) (ht : W.cell? ⟨gt, 0, none⟩ = some (.int .i64 ti)) (x : Need) :
    Calls Try.prog 30 #[.agg #[.int .i64 x.p, .bool x.r], .pointer (some ⟨gp, 0, none⟩), .pointer (some ⟨gt, 0, none⟩)] W fun e w' => e = .returned (.bool (decide (x.p = p) && decide (posM x ≠ ti))) ∧ Below W.heap.size W w' := by
  have hw0 := below_new W (.cells #[.int .i64 x.p, .bool x.r] 54)
  have hB := Blk.new W #[.int .i64 x.p, .bool x.r] 54 (0, 0)
  have d0 := hB.cell 0
  have d1 := hB.cell 1
  simp only [List.getElem?_toArray, List.getElem?_cons_zero, List.getElem?_cons_succ] at d0 d1
  have hp := cell_stay hw0 hp
  have ht := cell_stay hw0 ht
  have HN := Lib.hid hw0
  have HP : Hid (∀ W1 : World, Calls Try.prog 29 #[.agg #[.int .i64 x.p, .bool x.r]] W1 fun e w' => e = .returned (.int .i64 (posM x)) ∧ Below W1.heap.size W1 w') := Lib.hid (fun W1 => Pos_calls W1 x)
  clear hB
  go_enter Try.func30, Try.ntmps30
  go_upto_region 1 with fail
  generalize hgn : W.heap.size = gn at *
  have HGN := Lib.hid hgn
  clear hgn hw0
  generalize (W.alloc (.cells #[.int .i64 x.p, .bool x.r] 54)) = W0 at *
  have d0 := later_cell d0
  have d1 := later_cell d1
  have hp := later_cell hp
  have ht := later_cell ht
  by_cases hx : x.p = p
  · have hx1 : (x.p == p) = true := by simp [hx]
    have HF : Hid (decide (x.p = p) = true) := Lib.hid (by simp [hx])
    clear hx
    refine wp_region_later (by kernel_rfl) (by kernel_rfl) ?_
    repeat (go_big_quiet_step (first
      | (go_at_call 29; rename_i q; exact later_call q (HP.out q.w1))
      | fail))
    refine wpQuiet_nil ?_
    intro q
    go_wp2_with fail
    go_ret
    exact ⟨ret_bool (by rw [HF.out]; simp [bne, BEq.beq]), below_more (by rw [HGN.out]; exact HN.out) q.hb⟩
  · have hx1 : (x.p == p) = false := by simp [hx]
    have HF : Hid (decide (x.p = p) = false) := Lib.hid (by simp [hx])
    clear hx
    refine wp_region_later (by kernel_rfl) (by kernel_rfl) ?_
    repeat (go_big_quiet_step (fail))
    refine wpQuiet_nil ?_
    intro q
    go_wp2_with fail
    go_ret
    exact ⟨ret_bool (by rw [HF.out]; rfl), below_more (by rw [HGN.out]; exact HN.out) q.hb⟩
def standsM (r : Rs) : Bool := decide (r.m = 2) || decide (r.m = 3) || decide (r.m = 4)
/-- Does a route that stands so bar that a point is driven to a position? -/
def barsM (x : Rte) (r : Rs) (p : Int) (sec : Int) (ti : Int) : Bool :=
  standsM r && ((x.points ++ x.flank).any fun n => decide (n.p = p) && decide (posM n ≠ ti)) || !((x.points ++ x.flank).any fun n => decide (n.p = p) && decide (posM n = ti)) && holdsM x r sec
section
variable {L : Lay} {A1 A2 A3 A4 : Option Addr} {n1 c1 n2 c2 n3 c3 n4 c4 : Nat}
set_option maxHeartbeats 8000000 in
theorem Bars_calls (w : World) (hL : LayV w L A1 A2 A3 A4 n1 c1 n2 c2 n3 c3 n4 c4) (i : Nat) (x : Rte) (hx : L.rtes[i]? = some x) (hf : x.points.length + x.flank.length ≤ 8796093022208) (r : Rs) (p : Nat) (y : Pt) (hy : L.pts[p]? = some y) (ti : Int) :
    Calls Try.prog 18 #[.agg #[.slice A1 n1 c1, .slice A2 n2 c2, .slice A3 n3 c3, .slice A4 n4 c4], .int .i64 i, .agg #[.int .i64 r.m, .int .i64 r.t, .int .i64 r.g, .bool r.s], .int .i64 p, .int .i64 ti] w fun e w' => e = .returned (.bool (barsM x r p y.sec ti)) ∧ Below w.heap.size w w' := by
  have hli : i < n4 := by
    have := hL.rtes.len
    have := (List.getElem?_eq_some_iff.1 hx).1
    omega
  have hlp : p < n2 := by
    have := hL.pts.len
    have := (List.getElem?_eq_some_iff.1 hy).1
    omega
  have hcap4 := Nat.le_trans hL.rtes.le hL.rtes.cap
  have hcap2 := Nat.le_trans hL.pts.le hL.pts.cap
  obtain ⟨b, off, x', P, Q, F, pl, pc, q, qc, f, fc, rfl, hx', k0, k1, k2, k3, k4, k5, hv⟩ := hL.rtes.at_ hli
  obtain rfl : x = x' := by rw [hx] at hx'; exact Option.some.inj hx'
  obtain ⟨bp, op, y', rfl, hy', _, m1⟩ := hL.pts.pt hlp
  obtain rfl : y = y' := by rw [hy] at hy'; exact Option.some.inj hy'
  have hb : Below w.heap.size w ((((w.alloc (.cells #[.slice A1 n1 c1, .slice (some ⟨bp, op, none⟩) n2 c2, .slice A3 n3 c3, .slice (some ⟨b, off, none⟩) n4 c4] 40)).alloc (.cells #[.int .i64 r.m, .int .i64 r.t, .int .i64 r.g, .bool r.s] 33)).alloc (.cells #[.int .i64 p] 3)).alloc (.cells #[.int .i64 ti] 3)) :=
    (((below_new w _).alloc (by simp) _).alloc (by simp; omega) _).alloc (by simp; omega) _
  have hB1 := ((((Blk.new w #[.slice A1 n1 c1, .slice (some ⟨bp, op, none⟩) n2 c2, .slice A3 n3 c3, .slice (some ⟨b, off, none⟩) n4 c4] 40 (0, 0)).alloc (.cells #[.int .i64 r.m, .int .i64 r.t, .int .i64 r.g, .bool r.s] 33)).alloc (.cells #[.int .i64 p] 3)).alloc (.cells #[.int .i64 ti] 3))
  have hB2 := (((Blk.at_ (w := w.alloc (.cells #[.slice A1 n1 c1, .slice (some ⟨bp, op, none⟩) n2 c2, .slice A3 n3 c3, .slice (some ⟨b, off, none⟩) n4 c4] 40)) (g := w.heap.size + 1) (by simp) #[.int .i64 r.m, .int .i64 r.t, .int .i64 r.g, .bool r.s] 33 (0, 0))).alloc (.cells #[.int .i64 p] 3)).alloc (.cells #[.int .i64 ti] 3)
  have hB3 := (Blk.at_ (w := (w.alloc (.cells #[.slice A1 n1 c1, .slice (some ⟨bp, op, none⟩) n2 c2, .slice A3 n3 c3, .slice (some ⟨b, off, none⟩) n4 c4] 40)).alloc (.cells #[.int .i64 r.m, .int .i64 r.t, .int .i64 r.g, .bool r.s] 33)) (g := w.heap.size + 1 + 1) (by simp) #[.int .i64 p] 3 (0, 0)).alloc (.cells #[.int .i64 ti] 3)
  have hB4 := Blk.at_ (w := ((w.alloc (.cells #[.slice A1 n1 c1, .slice (some ⟨bp, op, none⟩) n2 c2, .slice A3 n3 c3, .slice (some ⟨b, off, none⟩) n4 c4] 40)).alloc (.cells #[.int .i64 r.m, .int .i64 r.t, .int .i64 r.g, .bool r.s] 33)).alloc (.cells #[.int .i64 p] 3)) (g := w.heap.size + 1 + 1 + 1) (by simp) #[.int .i64 ti] 3 (0, 0)
  have l0 := hB1.cell 0
  have l1 := hB1.cell 1
  have l2 := hB1.cell 2
  have l3 := hB1.cell 3
  have r0 := hB2.cell 0
  have r1 := hB2.cell 1
  have r2 := hB2.cell 2
  have r3 := hB2.cell 3
  have p0 := hB3.cell 0
  have t0 := hB4.cell 0
  simp only [List.getElem?_toArray, List.getElem?_cons_zero, List.getElem?_cons_succ] at l0 l1 l2 l3 r0 r1 r2 r3 p0 t0
  have k0 := cell_stay hb k0
  have k1 := cell_stay hb k1
  have k2 := cell_stay hb k2
  have k3 := cell_stay hb k3
  have k4 := cell_stay hb k4
  have k5 := cell_stay hb k5
  have m1 := cell_stay hb m1
  have HL := Lib.hid (hL.stay hb)
  have HV := Lib.hid (hv.stay hb)
  have HX := Lib.hid hx
  have HB := Lib.hid hb
  clear hL hv hx hx' hy hy' hB1 hB2 hB3 hB4
  go_enter Try.func18, Try.ntmps18
  go_upto_region 1 with fail
  generalize ((((w.alloc (.cells #[.slice A1 n1 c1, .slice (some ⟨bp, op, none⟩) n2 c2, .slice A3 n3 c3, .slice (some ⟨b, off, none⟩) n4 c4] 40)).alloc (.cells #[.int .i64 r.m, .int .i64 r.t, .int .i64 r.g, .bool r.s] 33)).alloc (.cells #[.int .i64 p] 3)).alloc (.cells #[.int .i64 ti] 3)) = W0 at *
  generalize hgn : w.heap.size = gn at *
  have HGN := Lib.hid hgn
  clear hgn hb
  go_upto_region 4 with (first
    | (go_at_call 26; refine (Needs_calls W0 L A1 _ A3 _ n1 c1 n2 c2 n3 c3 n4 c4 HL.out i x HX.out hf).mono ?_; rintro e w2 ⟨A5, n5, c5, rfl, hq5, hb5⟩; have p0 := cell_stay hb5 p0; have t0 := cell_stay hb5 t0; have HB5 := Lib.hid hb5; have HQ5 := Lib.hid hq5; clear hb5 hq5)
    | (go_at_call 27; refine (CFN_calls w2 A5 n5 c5 (x.points ++ x.flank) HQ5.out 28 #[.pointer (some ⟨gn + 1 + 1, 0, none⟩), .pointer (some ⟨gn + 1 + 1 + 1, 0, none⟩)] enter_ba1 (fun n => decide (n.p = p) && decide (posM n = ti)) (fun W a _ hW => (Ba1_calls W (gn + 1 + 1) (gn + 1 + 1 + 1) p ti (cell_stay hW p0) (cell_stay hW t0) a).mono fun e w' h => ⟨h.1, below_more hW h.2⟩)).mono ?_; rintro e w3 ⟨rfl, hb6⟩; generalize hso : ((x.points ++ x.flank).any fun n => decide (n.p = p) && decide (posM n = ti)) = so; have HSO := Lib.hid hso; clear hso; have p0 := cell_stay hb6 p0; have t0 := cell_stay hb6 t0; have HB6 := Lib.hid (below_more HB5.out hb6); have HQ6 := Lib.hid (HQ5.out.stay hb6); clear hb6)
    | (go_at_call 27; refine (CFN_calls w3 A5 n5 c5 (x.points ++ x.flank) HQ6.out 30 #[.pointer (some ⟨gn + 1 + 1, 0, none⟩), .pointer (some ⟨gn + 1 + 1 + 1, 0, none⟩)] enter_ba2 (fun n => decide (n.p = p) && decide (posM n ≠ ti)) (fun W a _ hW => (Ba2_calls W (gn + 1 + 1) (gn + 1 + 1 + 1) p ti (cell_stay hW p0) (cell_stay hW t0) a).mono fun e w' h => ⟨h.1, below_more hW h.2⟩)).mono ?_; rintro e w4 ⟨rfl, hb7⟩; generalize hot : ((x.points ++ x.flank).any fun n => decide (n.p = p) && decide (posM n ≠ ti)) = ot; have HOT := Lib.hid hot; clear hot; have HB7 := Lib.hid (below_more HB6.out hb7); have p0 := cell_stay hb7 p0; clear hb7)
    | fail)
  have HW := Lib.hid (below_more (by rw [HGN.out]; exact HB.out) HB7.out)
  have r0 := cell_stay HB7.out r0
  have r1 := cell_stay HB7.out r1
  have r2 := cell_stay HB7.out r2
  have r3 := cell_stay HB7.out r3
  have l1 := cell_stay HB7.out l1
  have l3 := cell_stay HB7.out l3
  have k0 := cell_stay HB7.out k0
  have k1 := cell_stay HB7.out k1
  have k2 := cell_stay HB7.out k2
  have k3 := cell_stay HB7.out k3
  have k4 := cell_stay HB7.out k4
  have k5 := cell_stay HB7.out k5
  have m1 := cell_stay HB7.out m1
  clear l0 l2 t0
  go_cut [14] (fun s14 wx => s14 = .bool (standsM r) ∧ wx = w4)
  case first =>
    by_cases h2 : r.m = 2
    · have h2' : (r.m == 2) = true := by simp [h2]
      have HF : Hid (standsM r = true) := Lib.hid (by unfold standsM; simp [h2])
      clear h2
      go_wp2_with fail
      go_meet
      exact ⟨by rw [HF.out], rfl⟩
    · have h2' : (r.m == 2) = false := by simp [h2]
      by_cases h3 : r.m = 3
      · have h3' : (r.m == 3) = true := by simp [h3]
        have HF : Hid (standsM r = true) := Lib.hid (by unfold standsM; simp [h3])
        clear h2 h3
        go_wp2_with fail
        go_meet
        exact ⟨by rw [HF.out], rfl⟩
      · have h3' : (r.m == 3) = false := by simp [h3]
        have HF : Hid (standsM r = (r.m == 4)) := Lib.hid (by unfold standsM; rw [decide_eq_false h2, decide_eq_false h3]; simp [BEq.beq])
        clear h2 h3
        go_wp2_with fail
        go_meet
        exact ⟨by rw [HF.out], rfl⟩
  case rest =>
    obtain ⟨rfl, rfl⟩ := hcut
    have HM : Hid (barsM x r p y.sec ti = (standsM r && ot || !so && holdsM x r y.sec)) := Lib.hid (by unfold barsM; rw [HSO.out, HOT.out])
    have HH : Hid (∀ W, Below wc.heap.size wc W → Calls Try.prog 31 #[.agg #[.string x.name, .int .i64 x.frm, .int .i64 x.to, .slice P pl pc, .slice Q q qc, .slice F f fc], .agg #[.int .i64 r.m, .int .i64 r.t, .int .i64 r.g, .bool r.s], .int .i64 y.sec] W fun e w' => e = .returned (.bool (holdsM x r y.sec)) ∧ Below W.heap.size W w') := Lib.hid (fun W hW => Holds_calls W x P Q F pl pc q qc f fc ((HV.out.stay HB7.out).stay hW) r y.sec)
    generalize standsM r = st at *
    generalize holdsM x r y.sec = ho at *
    go_upto_region 5 with fail
    have r0 := later_cell r0
    have r1 := later_cell r1
    have r2 := later_cell r2
    have r3 := later_cell r3
    have l1 := later_cell l1
    have l3 := later_cell l3
    have k0 := later_cell k0
    have k1 := later_cell k1
    have k2 := later_cell k2
    have k3 := later_cell k3
    have k4 := later_cell k4
    have k5 := later_cell k5
    have m1 := later_cell m1
    have p0 := later_cell p0
    cases st <;> cases ot <;> cases so
    all_goals
      refine wp_region_later (by kernel_rfl) (by kernel_rfl) ?_
      repeat (go_big_quiet_step (first
        | (go_at_call 31; rename_i q; exact later_call q (HH.out q.w1 q.hb))
        | fail))
      refine wpQuiet_nil ?_
      intro qq
      go_wp2_with fail
      go_ret
      exact ⟨ret_bool (by rw [HM.out]; simp), below_more HW.out qq.hb⟩
end
end Go.Proofs.Ytmdggodkkkihhaa
