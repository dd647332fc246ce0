/- Contract of judge.Held. -/
import Derived.Test.YtmdggodkkkihhaaJgHe
set_option linter.unusedVariables false
namespace Go.Proofs.Ytmdggodkkkihhaa
open Go.RowKit

/-- Three boxes at once: a layout's, what the field tells, what it is told. -/
structure Box3 (w : World) (g1 g2 g3 : Nat) (L : Lay) (A1 A2 A3 A4 : Option Addr) (n1 c1 n2 c2 n3 c3 n4 c4 : Nat) (I : Inn) (C D : Option Addr) (n c m d : Nat) (O : Ou) (E F : Option Addr) (p pc q qc : Nat) (R : Option Addr) (k kc : Nat) (rs : List Rs) : Prop where
  l : LayB w g1 L A1 A2 A3 A4 n1 c1 n2 c2 n3 c3 n4 c4
  i : InB w g2 I C D n c m d
  o : OuB w g3 O E F p pc q qc
  r : Sl flR w R k kc rs
theorem Box3.stay {w w1 : World} {g1 g2 g3 : Nat} {L : Lay} {A1 A2 A3 A4 : Option Addr} {n1 c1 n2 c2 n3 c3 n4 c4 : Nat} {I : Inn} {C D : Option Addr} {n c m d : Nat} {O : Ou} {E F : Option Addr} {p pc q qc : Nat} {R : Option Addr} {k kc : Nat} {rs : List Rs} (h : Box3 w g1 g2 g3 L A1 A2 A3 A4 n1 c1 n2 c2 n3 c3 n4 c4 I C D n c m d O E F p pc q qc R k kc rs) (hb : Below w.heap.size w w1) : Box3 w1 g1 g2 g3 L A1 A2 A3 A4 n1 c1 n2 c2 n3 c3 n4 c4 I C D n c m d O E F p pc q qc R k kc rs := ⟨h.l.stay hb, h.i.stay hb, h.o.stay hb, h.r.stay hb⟩
section
variable {L : Lay} {A1 A2 A3 A4 : Option Addr} {n1 c1 n2 c2 n3 c3 n4 c4 : Nat} {I : Inn} {C D : Option Addr} {n c m d : Nat} {O : Ou} {E F : Option Addr} {p pc q qc : Nat} {R : Option Addr} {k kc : Nat} {rs : List Rs}
set_option maxHeartbeats 8000000 in
theorem Held_calls (w : World) (hL : LayV w L A1 A2 A3 A4 n1 c1 n2 c2 n3 c3 n4 c4) (hI : InV w I C D n c m d) (hO : OuV w O E F p pc q qc) (hR : Sl flR w R k kc rs) (hok : LayOk L) :
    Calls Try.prog 15 #[.agg #[.slice A1 n1 c1, .slice A2 n2 c2, .slice A3 n3 c3, .slice A4 n4 c4], .agg #[.slice C n c, .slice D m d], .agg #[.slice E p pc, .slice F q qc], .slice R k kc] w fun e w' => e = .returned (.bool (heldM L I O rs)) ∧ Below w.heap.size w w' := by
  have e4 := hL.rtes.len
  have er := hR.len
  have hbw : Below w.heap.size w (((w.alloc (.cells #[.slice A1 n1 c1, .slice A2 n2 c2, .slice A3 n3 c3, .slice A4 n4 c4] 40)).alloc (.cells #[.slice C n c, .slice D m d] 28)).alloc (.cells #[.slice E p pc, .slice F q qc] 25)) :=
    ((below_new w _).alloc (by simp) _).alloc (by simp; omega) _
  have hB1 := (((Blk.new w #[.slice A1 n1 c1, .slice A2 n2 c2, .slice A3 n3 c3, .slice A4 n4 c4] 40 (0, 0)).alloc (.cells #[.slice C n c, .slice D m d] 28)).alloc (.cells #[.slice E p pc, .slice F q qc] 25))
  have hB2 := ((Blk.at_ (w := w.alloc (.cells #[.slice A1 n1 c1, .slice A2 n2 c2, .slice A3 n3 c3, .slice A4 n4 c4] 40)) (g := w.heap.size + 1) (by simp) #[.slice C n c, .slice D m d] 28 (0, 0))).alloc (.cells #[.slice E p pc, .slice F q qc] 25)
  have hB3 := Blk.at_ (w := (w.alloc (.cells #[.slice A1 n1 c1, .slice A2 n2 c2, .slice A3 n3 c3, .slice A4 n4 c4] 40)).alloc (.cells #[.slice C n c, .slice D m d] 28)) (g := w.heap.size + 1 + 1) (by simp) #[.slice E p pc, .slice F q qc] 25 (0, 0)
  have l0 := hB1.cell 0
  have l1 := hB1.cell 1
  have l2 := hB1.cell 2
  have l3 := hB1.cell 3
  have i0 := hB2.cell 0
  have i1 := hB2.cell 1
  have o0 := hB3.cell 0
  have o1 := hB3.cell 1
  simp only [List.getElem?_toArray, List.getElem?_cons_zero, List.getElem?_cons_succ] at l0 l1 l2 l3 i0 i1 o0 o1
  have HX : Hid (Box3 _ w.heap.size (w.heap.size + 1) (w.heap.size + 1 + 1) L A1 A2 A3 A4 n1 c1 n2 c2 n3 c3 n4 c4 I C D n c m d O E F p pc q qc R k kc rs) := Lib.hid ⟨LayB.mk l0 l1 l2 l3 (hL.stay hbw), InB.mk i0 i1 (hI.stay hbw), OuB.mk o0 o1 (hO.stay hbw), hR.stay hbw⟩
  by_cases h1 : k = n4
  case neg =>
    have h1' : ((k : Int) != (n4 : Int)) = true := by simp; omega
    have HF : Hid (heldM L I O rs = false) := Lib.hid (by unfold heldM; rw [decide_eq_false (by omega)]; simp)
    clear h1 hL hI hO hR hok e4 er HX hB1 hB2 hB3
    go_enter Try.func15, Try.ntmps15
    go_wp2_with fail
    go_ret
    exact ⟨ret_bool (by rw [HF.out]), hbw⟩
  case pos =>
    have h1' : ((k : Int) != (n4 : Int)) = false := by simp; omega
    have hn4 : n4 ≤ 1000000 := by have := hok.few; omega
    have HM : Hid (heldM L I O rs = (safeM L I O && !((List.range q).any fun s => O.proceed.getD s false && !lockedM L rs s) && !((List.range p).any (hBads L O rs)))) := Lib.hid (by
      unfold heldM
      rw [decide_eq_true (by omega), hO.drive.len, hO.proceed.len]
      simp)
    have KS := Lib.hid (Safe_calls _ (hL.stay hbw) (hI.stay hbw) (hO.stay hbw) hok)
    have HE : Hid (k = n4 ∧ L.rtes.length = n4 ∧ rs.length = k) := Lib.hid ⟨h1, e4, er⟩
    have HK := Lib.hid hok
    have HDP : Hid (safeM L I O = true → O.drive.length = L.pts.length) := Lib.hid (fun h => by
      unfold safeM at h
      simp only [Bool.and_eq_true, decide_eq_true_eq] at h
      exact h.1.1.1.2)
    have HNN : Hid (n2 = L.pts.length ∧ p = O.drive.length) := Lib.hid ⟨hL.pts.len.symm, hO.drive.len.symm⟩
    have hcap4 := Nat.le_trans hL.rtes.le hL.rtes.cap
    have hcap2 := Nat.le_trans hL.pts.le hL.pts.cap
    have hcapp := Nat.le_trans hO.drive.le hO.drive.cap
    have hcapq := Nat.le_trans hO.proceed.le hO.proceed.cap
    have hcapk := Nat.le_trans hR.le hR.cap
    clear h1 hL hI hO hR hok e4 er hB1 hB2 hB3
    generalize safeM L I O = sf at *
    have HBW := Lib.hid hbw
    cases sf with
    | false =>
      go_enter Try.func15, Try.ntmps15
      go_wp2_with (first
        | (go_at_call 13; refine KS.out.mono ?_; rintro e w2 ⟨rfl, hb2⟩)
        | fail)
      go_ret
      exact ⟨ret_bool (by rw [HM.out]; rfl), below_more HBW.out hb2⟩
    | true =>
      go_enter Try.func15, Try.ntmps15
      go_wp2_with (first
        | (go_at_call 13; refine KS.out.mono ?_; rintro e w2 ⟨rfl, hb2⟩; have HX := Lib.hid (HX.out.stay hb2); have o1 := cell_stay hb2 o1; have HB2 := Lib.hid (below_more HBW.out hb2); clear hb2)
        | fail)
      have HD : Hid (p = n2) := Lib.hid (by have := HDP.out (by first | trivial | rfl); have := HNN.out; omega)
      clear hbw
      go_loopw [31] (fun i wr => ∃ j : Nat, j ≤ q ∧ i = .int .i64 j ∧ Hid (Below w2.heap.size w2 wr ∧ ∀ s, s < j → (O.proceed.getD s false && !lockedM L rs s) = false)) (fun i _ => q - (intOf i).toNat)
      case atStart => exact ⟨0, by omega, rfl, Lib.hid ⟨Below.refl _ _, fun j hj => absurd hj (by omega)⟩⟩
      case round =>
        obtain ⟨j, hj, rfl, hr⟩ := hrel
        have HX := Lib.hid (HX.out.stay hr.out.1)
        have HB := Lib.hid (below_more HB2.out hr.out.1)
        have l0 := HX.out.l.b0
        have l1 := HX.out.l.b1
        have l2 := HX.out.l.b2
        have l3 := HX.out.l.b3
        by_cases hlt : j < q
        · obtain ⟨b, off, v, rfl, hv, cv⟩ := HX.out.o.v.proceed.tru hlt
          have HV := Lib.hid (getD_of (d := false) hv)
          clear hv
          cases v with
          | false =>
            have HN := Lib.hid (no_more (p := fun s => O.proceed.getD s false && !lockedM L rs s) hr.out.2 (by show (O.proceed.getD j false && _) = false; rw [HV.out]; rfl))
            go_wp2_with fail
            go_roundw
            case rel => exact ⟨j + 1, by omega, by go_num, Lib.hid ⟨hr.out.1, HN.out⟩⟩
            case measure => simp [intOf]; omega
          | true =>
            have KL := Lib.hid (IsLocked_calls wr HX.out.l.v hn4 R k kc rs HX.out.r (by have := HE.out; omega) j)
            generalize hz : lockedM L rs j = z at *
            have HZ := Lib.hid hz
            clear hz
            cases z with
            | true =>
              have HN := Lib.hid (no_more (p := fun s => O.proceed.getD s false && !lockedM L rs s) hr.out.2 (by show (O.proceed.getD j false && !lockedM L rs j) = false; rw [HV.out, HZ.out]; rfl))
              go_wp2_with (first
                | (go_at_call 17; refine KL.out.mono ?_; rintro e w3 ⟨rfl, hb3⟩)
                | fail)
              go_roundw
              case rel => exact ⟨j + 1, by omega, by go_num, Lib.hid ⟨below_more hr.out.1 hb3, HN.out⟩⟩
              case measure => simp [intOf]; omega
            | false =>
              have HY := Lib.hid (range_any_at (p := fun s => O.proceed.getD s false && !lockedM L rs s) hlt (by show (O.proceed.getD j false && !lockedM L rs j) = true; rw [HV.out, HZ.out]; rfl))
              go_wp2_with (first
                | (go_at_call 17; refine KL.out.mono ?_; rintro e w3 ⟨rfl, hb3⟩)
                | fail)
              go_ret
              exact ⟨ret_bool (by rw [HM.out, HY.out]; simp), below_more HB.out hb3⟩
        · obtain rfl : j = q := by omega
          have HY1 := Lib.hid (range_any_no hr.out.2)
          have o0 := HX.out.o.c0
          clear hlt hr
          go_wp2_with fail
          generalize hw5 : wr = w5 at *
          clear hw5
          go_loopw [48] (fun i wr => ∃ j : Nat, j ≤ p ∧ i = .int .i64 j ∧ Hid (Below w5.heap.size w5 wr ∧ ∀ s, s < j → hBads L O rs s = false)) (fun i _ => p - (intOf i).toNat)
          case atStart => exact ⟨0, by omega, by first | trivial | rfl, Lib.hid ⟨Below.refl _ _, fun j hj => absurd hj (by omega)⟩⟩
          case round =>
            obtain ⟨a, ha, rfl, hr2⟩ := hrel
            have HX := Lib.hid (HX.out.stay hr2.out.1)
            have HB := Lib.hid (below_more HB.out hr2.out.1)
            have l0 := HX.out.l.b0
            have l1 := HX.out.l.b1
            have l2 := HX.out.l.b2
            have l3 := HX.out.l.b3
            by_cases hlt : a < p
            · obtain ⟨be, oe, v, rfl, hv, cv⟩ := HX.out.o.v.drive.int hlt
              have HV := Lib.hid (getD_of (d := 0) hv)
              have hy := List.getElem?_eq_getElem (l := L.pts) (i := a) (by have := HD.out; have := HNN.out; omega)
              have HY := Lib.hid hy
              clear hv hy
              generalize L.pts[a]'_ = y at HY
              go_wp2_with fail
              have HR2 := Lib.hid hr2.out
              generalize hw6 : wr = w6 at *
              clear hw6 hr2
              by_cases hv0 : v = 0
              · have HN := Lib.hid (no_more HR2.out.2 (show hBads L O rs a = false by unfold hBads; rw [HV.out, hv0]; rfl))
                have hv1 : (v != 0) = false := by simp [hv0]
                clear hv0
                go_loopw [55] (fun i wr => ∃ j : Nat, j ≤ k ∧ i = .int .i64 j ∧ Hid (Below w6.heap.size w6 wr)) (fun i _ => k - (intOf i).toNat)
                case atStart => exact ⟨0, by omega, by first | trivial | rfl, Lib.hid (Below.refl _ _)⟩
                case round =>
                  obtain ⟨j, hj, rfl, hr3⟩ := hrel
                  by_cases hlt3 : j < k
                  · obtain ⟨br, or_, x, rfl, _, x0, x1, x2, x3⟩ := HX.out.r.rs hlt3
                    have x0 := cell_stay hr3.out x0
                    have x1 := cell_stay hr3.out x1
                    have x2 := cell_stay hr3.out x2
                    have x3 := cell_stay hr3.out x3
                    go_wp2_with fail
                    go_roundw
                    case rel => exact ⟨j + 1, by omega, by go_num, Lib.hid (hr3.out.alloc hr3.out.size _)⟩
                    case measure => simp [intOf]; omega
                  · obtain rfl : j = k := by omega
                    clear hlt3
                    go_wp2_with fail
                    go_roundw
                    case rel => exact ⟨a + 1, by omega, by go_num, Lib.hid ⟨below_more HR2.out.1 hr3.out, HN.out⟩⟩
                    case measure => simp [intOf]; omega
              · have hv1 : (v != 0) = true := by simp [hv0]
                have HV0 := Lib.hid hv0
                clear hv0
                go_loopw [55] (fun i wr => ∃ j : Nat, j ≤ k ∧ i = .int .i64 j ∧ Hid (Below w6.heap.size w6 wr ∧ ∀ s, s < j → hBad L O rs a s = false)) (fun i _ => k - (intOf i).toNat)
                case atStart => exact ⟨0, by omega, by first | trivial | rfl, Lib.hid ⟨Below.refl _ _, fun j hj => absurd hj (by omega)⟩⟩
                case round =>
                  obtain ⟨j, hj, rfl, hr3⟩ := hrel
                  by_cases hlt3 : j < k
                  · obtain ⟨br, or_, x, rfl, hx, x0, x1, x2, x3⟩ := HX.out.r.rs hlt3
                    have x0 := cell_stay hr3.out.1 x0
                    have x1 := cell_stay hr3.out.1 x1
                    have x2 := cell_stay hr3.out.1 x2
                    have x3 := cell_stay hr3.out.1 x3
                    have L0 := cell_stay hr3.out.1 l0
                    have L1 := cell_stay hr3.out.1 l1
                    have L2 := cell_stay hr3.out.1 l2
                    have L3 := cell_stay hr3.out.1 l3
                    have hx2 := List.getElem?_eq_getElem (l := L.rtes) (i := j) (by have := HE.out; omega)
                    have hn := below_new wr (.cells #[.int .i64 x.m, .int .i64 x.t, .int .i64 x.g, .bool x.s] 33)
                    have KB := Lib.hid (Bars_calls _ ((HX.out.l.v.stay hr3.out.1).stay hn) j _ hx2 (HK.out.needs _ (List.getElem_mem _)) x a y HY.out v)
                    have HBD : Hid (hBad L O rs a j = barsM (L.rtes[j]'(by have := HE.out; omega)) x a y.sec v) := Lib.hid (by
                      unfold hBad
                      rw [hx2, hx, HY.out]
                      show barsM _ x a y.sec (O.drive.getD a 0) = _
                      rw [HV.out])
                    generalize barsM _ x a y.sec v = z at *
                    have HNW := Lib.hid hn
                    have M0 := cell_stay hn L0
                    have M1 := cell_stay hn L1
                    have M2 := cell_stay hn L2
                    have M3 := cell_stay hn L3
                    clear hx hx2 hn
                    cases z with
                    | false =>
                      have HN3 := Lib.hid (no_more hr3.out.2 HBD.out)
                      go_wp2_with (first
                        | (go_at_call 18; refine KB.out.mono ?_; rintro e w8 ⟨rfl, hb8⟩)
                        | fail)
                      go_roundw
                      case rel => exact ⟨j + 1, by omega, by go_num, Lib.hid ⟨below_more hr3.out.1 (below_more HNW.out hb8), HN3.out⟩⟩
                      case measure => simp [intOf]; omega
                    | true =>
                      have HY3 := Lib.hid (range_any_at (n := p) hlt (show hBads L O rs a = true by
                        unfold hBads
                        rw [HV.out, decide_eq_true HV0.out, range_any_at (k := j) (by have := HE.out; omega) HBD.out]
                        rfl))
                      go_wp2_with (first
                        | (go_at_call 18; refine KB.out.mono ?_; rintro e w8 ⟨rfl, hb8⟩)
                        | fail)
                      go_ret
                      exact ⟨ret_bool (by rw [HM.out, HY3.out]; simp), below_more HB.out (below_more hr3.out.1 (below_more HNW.out hb8))⟩
                  · obtain rfl : j = k := by omega
                    have HN := Lib.hid (no_more HR2.out.2 (show hBads L O rs a = false by
                      unfold hBads
                      rw [show rs.length = j by have := HE.out; omega, range_any_no hr3.out.2]
                      simp))
                    clear hlt3
                    go_wp2_with fail
                    go_roundw
                    case rel => exact ⟨a + 1, by omega, by go_num, Lib.hid ⟨below_more HR2.out.1 hr3.out.1, HN.out⟩⟩
                    case measure => simp [intOf]; omega
            · obtain rfl : a = p := by omega
              have HY2 := Lib.hid (range_any_no hr2.out.2)
              clear hlt
              go_wp2_with fail
              go_ret
              exact ⟨ret_bool (by rw [HM.out, HY1.out, HY2.out]; rfl), HB.out⟩
end
end Go.Proofs.Ytmdggodkkkihhaa
