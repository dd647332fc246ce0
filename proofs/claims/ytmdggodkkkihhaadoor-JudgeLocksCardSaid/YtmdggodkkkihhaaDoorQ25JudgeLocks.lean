/- Texts put together for a claim. -/
import Derived.Test.YtmdggodkkkihhaaDoorQ22JudgeLocks
import Derived.Test.YtmdggodkkkihhaaDoorQ21JudgeLocks
import Derived.Deep.DeepCutAuto
import Derived.StillTailTactics
/- Contract: the reference's Lock's call. -/
set_option linter.unusedVariables false
set_option linter.unusedSimpArgs false
namespace Go.Proofs.YtmdggodkkkihhaaDoor
open Go.RowKit

/-- Is a route that stands there against a call? -/
def clash (L : Lay) (rs : List Rs) (r i : Nat) : Bool := match L.rtes[r]?, L.rtes[i]?, rs[i]? with
  | some x, some y, some z => !(z.m == 0) && conflictM r i x y
  | _, _, _ => false
/-- Is a need against a call? -/
def needBusy (L : Lay) (I : Inn) (rs : List Rs) (n : Need) : Bool := !(I.lies.getD n.p.toNat 0 == posM n) && (I.occ.getD (secOf L n.p).toNat false || decide (0 ≤ holderM L rs (secOf L n.p)))
def stateAt (rs : List Rs) (r : Nat) : Rs := (rs[r]?).getD ⟨0, 0, 0, false⟩
def pathAt (L : Lay) (r : Nat) : List Int := ((L.rtes[r]?).map Rte.path).getD []
def needsAt (L : Lay) (r : Nat) : List Need := ((L.rtes[r]?).map fun x => x.points ++ x.flank).getD []
/-- What a call does. -/
def callM (L : Lay) (I : Inn) (rs : List Rs) (r : Nat) : List Rs × Int :=
  if (stateAt rs r).m ≠ 0 then (rs, 7)
  else if (List.range rs.length).any (clash L rs r) = true then (rs, 8)
  else if (needsAt L r).any (needBusy L I rs) = true then (rs, 8)
  else if freeM I (pathAt L r) = false then (rs, 8)
  else (rs.set r ⟨1, 0, 0, false⟩, 0)
section
variable {L : Lay} {A1 A2 A3 A4 : Option Addr} {n1 c1 n2 c2 n3 c3 n4 c4 kc : Nat} {rs : List Rs} {tl : List Value} {I : Inn} {C D : Option Addr} {n c m d : Nat}
set_option maxRecDepth 20000 in
set_option maxHeartbeats 8000000 in
theorem RefCall_calls (w0 w : World) (g rb : Nat) (h : Lk 52 w0 w g rb L A1 A2 A3 A4 n1 c1 n2 c2 n3 c3 n4 c4 kc rs tl) (hI : InV w I C D n c m d) (hlo : LayOk L) (e1 : I.occ.length = L.secs.length) (e2 : I.lies.length = L.pts.length)
    (hu : ∀ (i : Nat) (x : Rte) (r : Rs), L.rtes[i]? = some x → rs[i]? = some r → UsedOk r x) (r : Nat) (hr : r < n4) :
    Calls Tryd.prog 32 #[.pointer (some ⟨g, 0, none⟩), .agg #[.slice C n c, .slice D m d], .int .i64 r] w
      (StepPost 52 w0 w g rb L A1 A2 A3 A4 n1 c1 n2 c2 n3 c3 n4 c4 kc (callM L I rs r).1 tl (.int .i64 (callM L I rs r).2)) := by
  obtain ⟨x, hx⟩ : ∃ x, L.rtes[r]? = some x := ⟨_, List.getElem?_eq_getElem (by have := h.lay.rtes.len; omega)⟩
  obtain ⟨y, hy⟩ : ∃ y, rs[r]? = some y := ⟨_, List.getElem?_eq_getElem (by have := h.len; omega)⟩
  have hbw : Below w.heap.size w (w.alloc (.cells #[.slice C n c, .slice D m d] 30)) := below_new w _
  have hB_i := Blk.at_ (w := w) (g := w.heap.size) (by simp) #[.slice C n c, .slice D m d] 30 (0, 0)
  have i0 := hB_i.cell 0
  have i1 := hB_i.cell 1
  simp only [List.getElem?_toArray, List.getElem?_cons_zero, List.getElem?_cons_succ] at i0 i1
  clear hB_i
  have hB := h.stay hbw
  have hok := hlo.all e1 e2
  have HM : Hid (callM L I rs r = if y.m ≠ 0 then (rs, 7) else if (List.range rs.length).any (clash L rs r) = true then (rs, 8) else if (x.points ++ x.flank).any (needBusy L I rs) = true then (rs, 8) else if freeM I x.path = false then (rs, 8) else (rs.set r ⟨1, 0, 0, false⟩, 0)) := Lib.hid (by
    unfold callM stateAt needsAt pathAt
    rw [hx, hy]
    rfl)
  have g0 := hB.blk.cell 0
  have g1 := hB.blk.cell 1
  have g2 := hB.blk.cell 2
  have g3 := hB.blk.cell 3
  have g4 := hB.blk.cell 4
  simp only [List.getElem?_toArray, List.getElem?_cons_zero, List.getElem?_cons_succ] at g0 g1 g2 g3 g4
  obtain ⟨r0, r1, r2, r3⟩ := row_at hB.row hy
  have HK := Lib.hid hB
  have HI := Lib.hid (hI.stay hbw)
  have HB := Lib.hid hbw
  have HX := Lib.hid hx
  have HY := Lib.hid hy
  have HU := Lib.hid hu
  have HOK := Lib.hid hok
  have HLO := Lib.hid hlo
  have HLN := Lib.hid (And.intro h.len (And.intro h.lay.rtes.len (And.intro h.lay.pts.len (And.intro hI.occ.len (And.intro hI.lies.len (And.intro e1 e2))))))
  have hcap := h.cap
  have q2 := Nat.le_trans h.lay.pts.le h.lay.pts.cap
  have qn := Nat.le_trans hI.occ.le hI.occ.cap
  have qm := Nat.le_trans hI.lies.le hI.lies.cap
  have hrn : (r : Int) < n4 := by omega
  clear h hI hB hx hy hu hok hlo e1 e2
  obtain ⟨ym, yt, yg, ys⟩ := y
  simp only at r0 r1 r2 r3 HM
  cases m0 : (ym == 0) with
  | false =>
    have m1 : (ym != 0) = true := by simp at m0; simp [m0]
    have HF : Hid (callM L I rs r = (rs, 7)) := Lib.hid (by rw [HM.out, if_pos (by simpa using m0)])
    go_enter Tryd.func32, Tryd.ntmps32
    go_wp2_with fail
    go_ret
    rw [HF.out]
    exact ⟨rfl, HK.out, only_of HB.out⟩
  | true =>
  have m1 : (ym != 0) = false := by simp at m0; simp [m0]
  have HM2 : Hid (callM L I rs r = if (List.range rs.length).any (clash L rs r) = true then (rs, 8) else if (x.points ++ x.flank).any (needBusy L I rs) = true then (rs, 8) else if freeM I x.path = false then (rs, 8) else (rs.set r ⟨1, 0, 0, false⟩, 0)) := Lib.hid (by rw [HM.out, if_neg (by simpa using m0)])
  clear HM
  go_enter Tryd.func32, Tryd.ntmps32
  go_wp2_with fail
  generalize (w.alloc (.cells #[.slice C n c, .slice D m d] 30)) = W0 at *
  generalize hgn : w.heap.size = gn at *
  have HGN := Lib.hid hgn
  clear hgn hbw
  go_loopw [7] (fun i wr => ∃ j : Nat, j ≤ n4 ∧ i = .int .i64 j ∧ Hid (Below W0.heap.size W0 wr ∧ ∀ i, i < j → clash L rs r i = false)) (fun i _ => n4 - (intOf i).toNat)
  case atStart => exact ⟨0, by omega, rfl, Lib.hid ⟨Below.refl _ _, fun j h => absurd h (by omega)⟩⟩
  case round =>
    obtain ⟨j, hj, rfl, hr⟩ := hrel
    have HB1 := Lib.hid hr.out.1
    have HN1 := Lib.hid hr.out.2
    replace g0 := cell_stay HB1.out g0
    replace g1 := cell_stay HB1.out g1
    replace g2 := cell_stay HB1.out g2
    replace g3 := cell_stay HB1.out g3
    replace g4 := cell_stay HB1.out g4
    replace i0 := cell_stay HB1.out i0
    replace i1 := cell_stay HB1.out i1
    replace r0 := cell_stay HB1.out r0
    replace r1 := cell_stay HB1.out r1
    replace r2 := cell_stay HB1.out r2
    replace r3 := cell_stay HB1.out r3
    clear hr
    by_cases hlt : j < n4
    · obtain ⟨z, hz⟩ : ∃ z, rs[j]? = some z := ⟨_, List.getElem?_eq_getElem (by have := HLN.out; omega)⟩
      obtain ⟨u, hu⟩ : ∃ u, L.rtes[j]? = some u := ⟨_, List.getElem?_eq_getElem (by have := HLN.out; omega)⟩
      obtain ⟨z0, z1, z2, z3⟩ := row_at (HK.out.stay HB1.out).row hz
      have KX := Lib.hid (RefConflict_calls wr L _ _ _ _ _ _ _ _ _ _ _ _ (HK.out.stay HB1.out).layv r j x u HX.out hu (HOK.out.all x (List.mem_of_getElem? HX.out)).few (HOK.out.all u (List.mem_of_getElem? hu)).few)
      have HC : Hid (clash L rs r j = (!(z.m == 0) && conflictM r j x u)) := Lib.hid (by unfold clash; rw [HX.out, hu, hz])
      have HJL := Lib.hid (show j < rs.length by have := HLN.out; omega)
      have hjn : (j : Int) < n4 := by omega
      obtain ⟨zm, zt, zg, zs⟩ := z
      simp only at z0 HC
      generalize conflictM r j x u = cz at *
      clear hz hu z1 z2 z3
      cases k0 : (zm == 0) with
      | true =>
        have k1 : (zm != 0) = false := by simp at k0; simp [k0]
        have HN := Lib.hid (no_more HN1.out (by rw [HC.out, k0]; rfl))
        go_wp2_with fail
        go_roundw
        case rel => exact ⟨j + 1, by omega, by go_num, Lib.hid ⟨HB1.out, HN.out⟩⟩
        case measure => simp [intOf]; omega
      | false =>
        have k1 : (zm != 0) = true := by simp at k0; simp [k0]
        cases cz with
        | false =>
          have HN := Lib.hid (no_more HN1.out (by rw [HC.out]; simp))
          go_wp2_with (first
            | (go_at_call 43; refine KX.out.mono ?_; rintro e w5 ⟨rfl, hb5⟩; have HB5 := Lib.hid hb5; clear hb5)
            | fail)
          go_roundw
          case rel => exact ⟨j + 1, by omega, by go_num, Lib.hid ⟨below_more HB1.out HB5.out, HN.out⟩⟩
          case measure => simp [intOf]; omega
        | true =>
          have HF : Hid (callM L I rs r = (rs, 8)) := Lib.hid (by rw [HM2.out, if_pos (range_any_at HJL.out (by rw [HC.out, k0]; rfl))])
          go_wp2_with (first
            | (go_at_call 43; refine KX.out.mono ?_; rintro e w5 ⟨rfl, hb5⟩; have HB5 := Lib.hid hb5; clear hb5)
            | fail)
          go_ret
          rw [HF.out]
          exact ⟨rfl, HK.out.stay (below_more HB1.out HB5.out), only_of (below_more (by rw [HGN.out]; exact HB.out) (below_more HB1.out HB5.out))⟩
    · obtain rfl : j = n4 := by omega
      have HM3 : Hid (callM L I rs r = if (x.points ++ x.flank).any (needBusy L I rs) = true then (rs, 8) else if freeM I x.path = false then (rs, 8) else (rs.set r ⟨1, 0, 0, false⟩, 0)) := Lib.hid (by
        rw [HM2.out, if_neg (by rw [range_any_no (n := rs.length) (by rw [HLN.out.1]; exact HN1.out)]; decide)])
      have KN := Lib.hid (RNeeds_calls wr L _ _ _ _ _ _ _ _ _ _ _ _ (HK.out.stay HB1.out).layv r x HX.out (HOK.out.all x (List.mem_of_getElem? HX.out)).few)
      have HNP := Lib.hid (HOK.out.all x (List.mem_of_getElem? HX.out)).need
      have KC := Lib.hid (fun (W : World) (hb : Below W0.heap.size W0 W) => RefClear_calls W (HK.out.stay hb).layv (HI.out.stay hb) r x HX.out (HOK.out.all x (List.mem_of_getElem? HX.out)))
      clear hlt HM2 HN1
      generalize x.points ++ x.flank = ns at *
      go_wp2_with (first
        | (go_at_call 34; refine KN.out.mono ?_; rintro e w2 ⟨B, q, qc, rfl, hq, hb2⟩; have HB2 := Lib.hid hb2; have HQ := Lib.hid hq; (replace g0 := cell_stay hb2 g0); (replace g1 := cell_stay hb2 g1); (replace g2 := cell_stay hb2 g2); (replace g3 := cell_stay hb2 g3); (replace g4 := cell_stay hb2 g4); (replace i0 := cell_stay hb2 i0); (replace i1 := cell_stay hb2 i1); (replace r0 := cell_stay hb2 r0); (replace r1 := cell_stay hb2 r1); (replace r2 := cell_stay hb2 r2); (replace r3 := cell_stay hb2 r3); clear hb2 hq)
        | fail)
      have HB02 := Lib.hid (below_more HB1.out HB2.out)
      have HQL := Lib.hid HQ.out.len
      have qq := Nat.le_trans HQ.out.le HQ.out.cap
      clear KN HB1 HB2
      go_loopw [9] (fun i wr => ∃ s : Nat, s ≤ q ∧ i = .int .i64 s ∧ Hid (Below w2.heap.size w2 wr ∧ ∀ (i : Nat) (a : Need), i < s → ns[i]? = some a → needBusy L I rs a = false)) (fun i _ => q - (intOf i).toNat)
      case atStart => exact ⟨0, by omega, rfl, Lib.hid ⟨Below.refl _ _, fun j a h => absurd h (by omega)⟩⟩
      case round =>
        obtain ⟨s, hs, rfl, hr⟩ := hrel
        have HB3 := Lib.hid hr.out.1
        have HN3 := Lib.hid hr.out.2
        have HB03 := Lib.hid (below_more HB02.out HB3.out)
        replace g0 := cell_stay HB3.out g0
        replace g1 := cell_stay HB3.out g1
        replace g2 := cell_stay HB3.out g2
        replace g3 := cell_stay HB3.out g3
        replace g4 := cell_stay HB3.out g4
        replace i0 := cell_stay HB3.out i0
        replace i1 := cell_stay HB3.out i1
        replace r0 := cell_stay HB3.out r0
        replace r1 := cell_stay HB3.out r1
        replace r2 := cell_stay HB3.out r2
        replace r3 := cell_stay HB3.out r3
        clear hr
        by_cases hlt : s < q
        · obtain ⟨bn, on, a, rfl, ha, a0, a1⟩ := HQ.out.need hlt
          obtain ⟨p0, p1⟩ := HNP.out a (List.mem_of_getElem? ha)
          obtain ⟨u, hu⟩ : ∃ u : Nat, a.p = u := ⟨a.p.toNat, by omega⟩
          obtain ⟨bp, op, pt, rfl, hpt, _, cp⟩ := HK.out.layv.pts.pt (j := u) (by have := HLN.out; omega)
          obtain ⟨s0, s1⟩ := HLO.out.pts pt (List.mem_of_getElem? hpt)
          obtain ⟨v, hv⟩ : ∃ v : Nat, pt.sec = v := ⟨pt.sec.toNat, by omega⟩
          obtain ⟨bo, oo, oc, rfl, hoc, co⟩ := HI.out.occ.tru (j := v) (by have := HLN.out; omega)
          obtain ⟨bl, ol, li, rfl, hli, cl⟩ := HI.out.lies.int (j := u) (by have := HLN.out; omega)
          have HSEC : Hid (secOf L (u : Int) = v) := Lib.hid (by unfold secOf; rw [Int.toNat_natCast, hpt]; exact hv)
          have HA := Lib.hid ha
          replace a0 := cell_stay HB3.out a0
          replace a1 := cell_stay HB3.out a1
          replace cp := cell_stay HB03.out cp
          replace co := cell_stay HB03.out co
          replace cl := cell_stay HB03.out cl
          rw [hv] at cp
          have KS := Lib.hid (fun W : World => RefSide_calls W a)
          have HNB : Hid (needBusy L I rs a = (!(li == posM a) && (oc || decide (0 ≤ holderM L rs v)))) := Lib.hid (by
            unfold needBusy
            rw [hu, HSEC.out, Int.toNat_natCast, Int.toNat_natCast, getD_of hli, getD_of hoc])
          have KH := Lib.hid (fun (W : World) (hb : Below wr.heap.size wr W) => RefHolder_calls w0 W g rb ((HK.out.stay HB03.out).stay hb) HU.out (v : Int))
          obtain ⟨ap, ar⟩ := a
          simp only at hu a0 a1 KS HNB p0 p1
          subst hu
          have hup : (u : Int) < n2 := by have := HLN.out; omega
          have hum : (u : Int) < m := by have := HLN.out; omega
          have hvn : (v : Int) < n := by have := HLN.out; omega
          have hsq : (s : Int) < q := by omega
          generalize posM ⟨(u : Int), ar⟩ = po at *
          generalize holderM L rs (v : Int) = ho at *
          clear ha hpt hv hoc hli p0 p1 s0 s1
          have Lg0 := later_cell g0
          have Lg1 := later_cell g1
          have Lg2 := later_cell g2
          have Lg3 := later_cell g3
          have Lg4 := later_cell g4
          have La0 := later_cell a0
          have La1 := later_cell a1
          have Lcp := later_cell cp
          go_wp2_with fail
          refine wp_region_later (by kernel_rfl) (by kernel_rfl) ?_
          repeat (go_big_quiet_step (fail))
          refine wpQuiet_nil ?_
          intro q0
          have hq0 := q0.hb
          have HB4 := Lib.hid (below_more HB3.out hq0)
          have KH4 := Lib.hid (fun (W : World) (hb : Below q0.w1.heap.size q0.w1 W) => KH.out W (below_more hq0 hb))
          generalize q0.w1 = w4 at *
          replace g0 := cell_stay hq0 g0
          replace g1 := cell_stay hq0 g1
          replace g2 := cell_stay hq0 g2
          replace g3 := cell_stay hq0 g3
          replace g4 := cell_stay hq0 g4
          replace i0 := cell_stay hq0 i0
          replace i1 := cell_stay hq0 i1
          replace r0 := cell_stay hq0 r0
          replace r1 := cell_stay hq0 r1
          replace r2 := cell_stay hq0 r2
          replace r3 := cell_stay hq0 r3
          replace a0 := cell_stay hq0 a0
          replace a1 := cell_stay hq0 a1
          replace cp := cell_stay hq0 cp
          replace co := cell_stay hq0 co
          replace cl := cell_stay hq0 cl
          clear hq0 Lg0 Lg1 Lg2 Lg3 Lg4 La0 La1 Lcp
          go_upto_region 13 with fail
          generalize he0 : (li == po) = e0 at *
          generalize hhp : decide (0 ≤ ho) = hp at *
          go_cut [99] (fun v wx => v = .bool (!e0 && (oc || hp)) ∧ Below w4.heap.size w4 wx)
          case first =>
            have Lg0 := later_cell g0
            have Lg1 := later_cell g1
            have Lg2 := later_cell g2
            have Lg3 := later_cell g3
            have Lg4 := later_cell g4
            have Li0 := later_cell i0
            have Li1 := later_cell i1
            have La0 := later_cell a0
            have La1 := later_cell a1
            have Lcp := later_cell cp
            have Lco := later_cell co
            have Lcl := later_cell cl
            have he1 : (li != po) = !e0 := by rw [← he0]; rfl
            cases e0 <;> cases oc <;> cases hp
            all_goals
              refine wp_region_later (by kernel_rfl) (by kernel_rfl) ?_
              repeat (go_big_quiet_step ((first | (go_at_call 36; rename_i z; exact later_call z (KS.out z.w1)) | (go_at_call 35; rename_i z; exact later_call z (KH4.out z.w1 z.hb)) | fail)))
              refine wpQuiet_nil ?_
              intro q0
              go_wp2_with fail
              go_meet
              exact ⟨rfl, q0.hb⟩
          case rest =>
            obtain ⟨rfl, hb6⟩ := hcut
            have HB6 := Lib.hid (below_more HB4.out hb6)
            clear hb6 he0 hhp
            generalize (!e0 && (oc || hp)) = bad at *
            cases bad with
            | false =>
              have HN := Lib.hid (none_more HA.out HN3.out HNB.out)
              go_wp2_with fail
              go_roundw
              case rel => exact ⟨s + 1, by omega, by go_num, Lib.hid ⟨HB6.out, HN.out⟩⟩
              case measure => simp [intOf]; omega
            | true =>
              have HF : Hid (callM L I rs r = (rs, 8)) := Lib.hid (by rw [HM3.out, if_pos (List.any_eq_true.2 ⟨_, List.mem_of_getElem? HA.out, HNB.out⟩)])
              go_wp2_with fail
              go_ret
              rw [HF.out]
              exact ⟨rfl, HK.out.stay (below_more HB02.out HB6.out), only_of (below_more (by rw [HGN.out]; exact HB.out) (below_more HB02.out HB6.out))⟩
        · obtain rfl : s = q := by omega
          have HM4 : Hid (callM L I rs r = if freeM I x.path = false then (rs, 8) else (rs.set r ⟨1, 0, 0, false⟩, 0)) := Lib.hid (by
            rw [HM3.out, if_neg (by rw [any_none HQL.out HN3.out]; decide)])
          have KC1 := Lib.hid (fun z : Later wr => KC.out z.w1 (below_more HB03.out z.hb))
          generalize freeM I x.path = fr at *
          clear hlt HM3 HN3 KC
          have Lg0 := later_cell g0
          have Lg1 := later_cell g1
          have Lg2 := later_cell g2
          have Lg3 := later_cell g3
          have Lg4 := later_cell g4
          have Li0 := later_cell i0
          have Li1 := later_cell i1
          have Lr0 := later_cell r0
          have Lr1 := later_cell r1
          have Lr2 := later_cell r2
          have Lr3 := later_cell r3
          cases fr with
          | false =>
            go_wp2_with fail
            refine wp_region_later (by kernel_rfl) (by kernel_rfl) ?_
            repeat (go_big_quiet_step ((first | (go_at_call 37; rename_i z; exact later_call z (KC1.out z)) | fail)))
            refine wpQuiet_nil ?_
            intro q0
            go_wp2_with fail
            go_ret
            rw [show callM L I rs r = (rs, 8) from HM4.out]
            exact ⟨rfl, HK.out.stay (below_more HB03.out q0.hb), only_of (below_more (by rw [HGN.out]; exact HB.out) (below_more HB03.out q0.hb))⟩
          | true =>
            go_wp2_with fail
            refine wp_region_later (by kernel_rfl) (by kernel_rfl) ?_
            repeat (go_big_quiet_step ((first | (go_at_call 37; rename_i z; exact later_call z (KC1.out z)) | fail)))
            refine wpQuiet_nil ?_
            intro q0
            have HKA := Lib.hid (HK.out.stay (below_more HB03.out q0.hb))
            have HOA := Lib.hid (below_more (by rw [HGN.out]; exact HB.out) (below_more HB03.out q0.hb))
            have f0 := HKA.out.row.free (r * 4)
            have f1 := HKA.out.row.free (r * 4 + 1)
            have f2 := HKA.out.row.free (r * 4 + 2)
            have f3 := HKA.out.row.free (r * 4 + 3)
            go_wp2_with fail
            go_ret
            rw [show callM L I rs r = (rs.set r ⟨1, 0, 0, false⟩, 0) from HM4.out]
            exact ⟨rfl, HKA.out.put4 HY.out ⟨1, 0, 0, false⟩, only_put4 (only_of HOA.out) _ _ _ _ _ _ _ _⟩
end
end Go.Proofs.YtmdggodkkkihhaaDoor

/- Contract: the reference's Lock's Command. -/
set_option linter.unusedVariables false
set_option linter.unusedSimpArgs false
namespace Go.Proofs.YtmdggodkkkihhaaDoor
open Go.RowKit

theorem only_drawn {S : Nat → Prop} {w w1 : World} (h : Only S w w1) (n : Nat) : Only S w (w1.drewN n) := ⟨h.os, h.tape, h.output, h.size, h.block⟩
/-- What a command does. -/
def commandM (L : Lay) (I : Inn) (rs : List Rs) (kind route : Int) : List Rs × Int :=
  if mayInM L I = false ∨ (kind ≠ 1 ∧ kind ≠ 2) then (rs, 1)
  else if route < 0 ∨ (rs.length : Int) ≤ route then (rs, 5)
  else if kind = 1 then callM L I rs route.toNat
  else if (stateAt rs route.toNat).m = 1 then (rs.set route.toNat ⟨0, 0, 0, false⟩, 0)
  else if (stateAt rs route.toNat).m = 2 then (rs.set route.toNat ⟨4, 0, 0, false⟩, 0)
  else (rs, 7)
section
variable {L : Lay} {A1 A2 A3 A4 : Option Addr} {n1 c1 n2 c2 n3 c3 n4 c4 kc : Nat} {rs : List Rs} {tl : List Value} {I : Inn} {C D : Option Addr} {n c m d : Nat}
set_option maxRecDepth 20000 in
set_option maxHeartbeats 8000000 in
theorem RefCommand_calls (w0 w : World) (g rb : Nat) (h : Lk 52 w0 w g rb L A1 A2 A3 A4 n1 c1 n2 c2 n3 c3 n4 c4 kc rs tl) (hI : InV w I C D n c m d) (hlo : LayOk L) (hmay : mayInM L I = true)
    (hu : ∀ (i : Nat) (x : Rte) (r : Rs), L.rtes[i]? = some x → rs[i]? = some r → UsedOk r x) (kind route : Int) :
    Calls Tryd.prog 17 #[.pointer (some ⟨g, 0, none⟩), .agg #[.slice C n c, .slice D m d], .agg #[.int .i64 kind, .int .i64 route]] w
      (StepPost 52 w0 w g rb L A1 A2 A3 A4 n1 c1 n2 c2 n3 c3 n4 c4 kc (commandM L I rs kind route).1 tl (.int .i64 (commandM L I rs kind route).2)) := by
  have hbw : Below w.heap.size w ((w.alloc (.cells #[.slice C n c, .slice D m d] 30)).alloc (.cells #[.int .i64 kind, .int .i64 route] 49)) := (below_new w _).alloc (by simp) _
  have hB_i := (Blk.at_ (w := w) (g := w.heap.size) (by simp) #[.slice C n c, .slice D m d] 30 (0, 0)).alloc (.cells #[.int .i64 kind, .int .i64 route] 49)
  have i0 := hB_i.cell 0
  have i1 := hB_i.cell 1
  have hB_k := Blk.at_ (w := (w.alloc (.cells #[.slice C n c, .slice D m d] 30))) (g := w.heap.size + 1) (by simp) #[.int .i64 kind, .int .i64 route] 49 (0, 0)
  have k0 := hB_k.cell 0
  have k1 := hB_k.cell 1
  simp only [List.getElem?_toArray, List.getElem?_cons_zero, List.getElem?_cons_succ] at i0 i1 k0 k1
  clear hB_i hB_k
  have hB := h.stay hbw
  have KM := Lib.hid (fun (W : World) (hb : Below _ _ W) => RefMayIn_calls W (hB.layv.stay hb) ((hI.stay hbw).stay hb))
  rw [hmay] at KM
  obtain ⟨e1, e2⟩ : I.occ.length = L.secs.length ∧ I.lies.length = L.pts.length := by
    have := hmay
    unfold mayInM at this
    simp only [Bool.and_eq_true, decide_eq_true_eq] at this
    exact ⟨this.1.2, this.2⟩
  have HM : Hid (commandM L I rs kind route = if kind ≠ 1 ∧ kind ≠ 2 then (rs, 1) else if route < 0 ∨ (rs.length : Int) ≤ route then (rs, 5)
      else if kind = 1 then callM L I rs route.toNat else if (stateAt rs route.toNat).m = 1 then (rs.set route.toNat ⟨0, 0, 0, false⟩, 0) else if (stateAt rs route.toNat).m = 2 then (rs.set route.toNat ⟨4, 0, 0, false⟩, 0) else (rs, 7)) := Lib.hid (by
    unfold commandM
    rw [hmay]
    by_cases hk : kind ≠ 1 ∧ kind ≠ 2
    · rw [if_pos (.inr hk), if_pos hk]
    · rw [if_neg (fun hh => by rcases hh with hh | hh; cases hh; exact hk hh), if_neg hk])
  have g0 := hB.blk.cell 0
  have g1 := hB.blk.cell 1
  have g2 := hB.blk.cell 2
  have g3 := hB.blk.cell 3
  have g4 := hB.blk.cell 4
  simp only [List.getElem?_toArray, List.getElem?_cons_zero, List.getElem?_cons_succ] at g0 g1 g2 g3 g4
  have HK := Lib.hid hB
  have HI := Lib.hid (hI.stay hbw)
  have HB := Lib.hid hbw
  have HU := Lib.hid hu
  have HLO := Lib.hid hlo
  have HE12 := Lib.hid (And.intro e1 e2)
  have HLN := Lib.hid h.len
  have hcap := h.cap
  clear h hI hB hu hlo hmay e1 e2
  go_enter Tryd.func17, Tryd.ntmps17
  go_wp2_with fail
  generalize ((w.alloc (.cells #[.slice C n c, .slice D m d] 30)).alloc (.cells #[.int .i64 kind, .int .i64 route] 49)) = W0 at *
  generalize hgn : w.heap.size = gn at *
  have HGN := Lib.hid hgn
  clear hgn hbw
  have KM1 := Lib.hid (fun z : Later W0 => KM.out z.w1 z.hb)
  clear KM
  by_cases hk1 : kind = 1
  case pos =>
    subst hk1
    have HM1 : Hid (commandM L I rs 1 route = if route < 0 ∨ (rs.length : Int) ≤ route then (rs, 5) else callM L I rs route.toNat) := Lib.hid (by rw [HM.out, if_neg (by decide)]; rfl)
    clear HM
    have Lg0 := later_cell g0
    have Lg1 := later_cell g1
    have Lg2 := later_cell g2
    have Lg3 := later_cell g3
    have Lg4 := later_cell g4
    have Li0 := later_cell i0
    have Li1 := later_cell i1
    have Lk0 := later_cell k0
    have Lk1 := later_cell k1
    refine wp_region_later (by kernel_rfl) (by kernel_rfl) ?_
    repeat (go_big_quiet_step ((first | (go_at_call 10; rename_i z; exact later_call z (KM1.out z)) | fail)))
    refine wpQuiet_nil ?_
    intro q0
    clear KM1
    have hq := q0.hb
    have Hwa := Lib.hid hq
    generalize q0.w1 = wa at *
    replace g0 := cell_stay hq g0
    replace g1 := cell_stay hq g1
    replace g2 := cell_stay hq g2
    replace g3 := cell_stay hq g3
    replace g4 := cell_stay hq g4
    replace i0 := cell_stay hq i0
    replace i1 := cell_stay hq i1
    replace k0 := cell_stay hq k0
    replace k1 := cell_stay hq k1
    clear hq Lg0 Lg1 Lg2 Lg3 Lg4 Li0 Li1 Lk0 Lk1
    by_cases hr0 : route < 0
    · have HF : Hid (commandM L I rs 1 route = (rs, 5)) := Lib.hid (by rw [HM1.out, if_pos (.inl hr0)])
      have hr1 : decide (route < 0) = true := by simpa using hr0
      have Lg0 := later_cell g0
      have Lg1 := later_cell g1
      have Lg2 := later_cell g2
      have Lg3 := later_cell g3
      have Lg4 := later_cell g4
      have Li0 := later_cell i0
      have Li1 := later_cell i1
      have Lk0 := later_cell k0
      have Lk1 := later_cell k1
      go_wp2_with fail
      refine wp_region_later (by kernel_rfl) (by kernel_rfl) ?_
      repeat (go_big_quiet_step (fail))
      refine wpQuiet_nil ?_
      intro q0
      go_wp2_with fail
      go_ret
      rw [HF.out]
      exact ⟨rfl, HK.out.stay (below_more Hwa.out q0.hb), only_of (below_more (below_more (by rw [HGN.out]; exact HB.out) Hwa.out) q0.hb)⟩
    have hr1 : decide (route < 0) = false := by simpa using hr0
    by_cases hrn : (n4 : Int) ≤ route
    · have HF : Hid (commandM L I rs 1 route = (rs, 5)) := Lib.hid (by rw [HM1.out, if_pos (.inr (by rw [HLN.out]; exact hrn))])
      have hr2 : decide ((n4 : Int) ≤ route) = true := by simpa using hrn
      have Lg0 := later_cell g0
      have Lg1 := later_cell g1
      have Lg2 := later_cell g2
      have Lg3 := later_cell g3
      have Lg4 := later_cell g4
      have Li0 := later_cell i0
      have Li1 := later_cell i1
      have Lk0 := later_cell k0
      have Lk1 := later_cell k1
      go_wp2_with fail
      refine wp_region_later (by kernel_rfl) (by kernel_rfl) ?_
      repeat (go_big_quiet_step (fail))
      refine wpQuiet_nil ?_
      intro q0
      go_wp2_with fail
      go_ret
      rw [HF.out]
      exact ⟨rfl, HK.out.stay (below_more Hwa.out q0.hb), only_of (below_more (below_more (by rw [HGN.out]; exact HB.out) Hwa.out) q0.hb)⟩
    have hr2 : decide ((n4 : Int) ≤ route) = false := by simpa using hrn
    have HM2 := Lib.hid (HM1.out.trans (if_neg (by rw [HLN.out]; intro hh; rcases hh with hh | hh; exact hr0 hh; exact hrn hh)))
    obtain ⟨r, rfl⟩ : ∃ r : Nat, route = r := ⟨route.toNat, by omega⟩
    have hrr : r < n4 := by omega
    rw [Int.toNat_natCast] at HM2
    clear HM1 hr0 hrn
    have KC := Lib.hid (fun (W : World) (hb : Below W0.heap.size W0 W) => RefCall_calls w0 W g rb (HK.out.stay hb) (HI.out.stay hb) HLO.out HE12.out.1 HE12.out.2 HU.out r hrr)
    have Lg0 := later_cell g0
    have Lg1 := later_cell g1
    have Lg2 := later_cell g2
    have Lg3 := later_cell g3
    have Lg4 := later_cell g4
    have Li0 := later_cell i0
    have Li1 := later_cell i1
    have Lk0 := later_cell k0
    have Lk1 := later_cell k1
    go_wp2_with fail
    refine wp_region_later (by kernel_rfl) (by kernel_rfl) ?_
    repeat (go_big_quiet_step (fail))
    refine wpQuiet_nil ?_
    intro q0
    have HCB := Lib.hid (KC.out q0.w1 (below_more Hwa.out q0.hb))
    have HBB := Lib.hid (below_more (below_more (by rw [HGN.out]; exact HB.out) Hwa.out) q0.hb)
    clear KC
    generalize callM L I rs r = cr at *
    obtain ⟨rs', cd⟩ := cr
    go_wp2_with (first
      | (go_at_call 32; refine HCB.out.mono ?_; rintro e w5 ⟨rfl, hk5, ho5⟩)
      | fail)
    go_ret
    rw [HM2.out]
    exact ⟨rfl, hk5, (only_of HBB.out).trans ho5 (fun _ _ h => h) (fun _ _ h => h)⟩
  case neg =>
  by_cases hk2 : kind = 2
  case pos =>
    subst hk2
    have HM1 : Hid (commandM L I rs 2 route = if route < 0 ∨ (rs.length : Int) ≤ route then (rs, 5) else if (stateAt rs route.toNat).m = 1 then (rs.set route.toNat ⟨0, 0, 0, false⟩, 0) else if (stateAt rs route.toNat).m = 2 then (rs.set route.toNat ⟨4, 0, 0, false⟩, 0) else (rs, 7)) := Lib.hid (by rw [HM.out, if_neg (by decide)]; rfl)
    clear HM
    have Lg0 := later_cell g0
    have Lg1 := later_cell g1
    have Lg2 := later_cell g2
    have Lg3 := later_cell g3
    have Lg4 := later_cell g4
    have Li0 := later_cell i0
    have Li1 := later_cell i1
    have Lk0 := later_cell k0
    have Lk1 := later_cell k1
    refine wp_region_later (by kernel_rfl) (by kernel_rfl) ?_
    repeat (go_big_quiet_step ((first | (go_at_call 10; rename_i z; exact later_call z (KM1.out z)) | fail)))
    refine wpQuiet_nil ?_
    intro q0
    clear KM1
    have hq := q0.hb
    have Hwa := Lib.hid hq
    generalize q0.w1 = wa at *
    replace g0 := cell_stay hq g0
    replace g1 := cell_stay hq g1
    replace g2 := cell_stay hq g2
    replace g3 := cell_stay hq g3
    replace g4 := cell_stay hq g4
    replace i0 := cell_stay hq i0
    replace i1 := cell_stay hq i1
    replace k0 := cell_stay hq k0
    replace k1 := cell_stay hq k1
    clear hq Lg0 Lg1 Lg2 Lg3 Lg4 Li0 Li1 Lk0 Lk1
    by_cases hr0 : route < 0
    · have HF : Hid (commandM L I rs 2 route = (rs, 5)) := Lib.hid (by rw [HM1.out, if_pos (.inl hr0)])
      have hr1 : decide (route < 0) = true := by simpa using hr0
      have Lg0 := later_cell g0
      have Lg1 := later_cell g1
      have Lg2 := later_cell g2
      have Lg3 := later_cell g3
      have Lg4 := later_cell g4
      have Li0 := later_cell i0
      have Li1 := later_cell i1
      have Lk0 := later_cell k0
      have Lk1 := later_cell k1
      go_wp2_with fail
      refine wp_region_later (by kernel_rfl) (by kernel_rfl) ?_
      repeat (go_big_quiet_step (fail))
      refine wpQuiet_nil ?_
      intro q0
      go_wp2_with fail
      go_ret
      rw [HF.out]
      exact ⟨rfl, HK.out.stay (below_more Hwa.out q0.hb), only_of (below_more (below_more (by rw [HGN.out]; exact HB.out) Hwa.out) q0.hb)⟩
    have hr1 : decide (route < 0) = false := by simpa using hr0
    by_cases hrn : (n4 : Int) ≤ route
    · have HF : Hid (commandM L I rs 2 route = (rs, 5)) := Lib.hid (by rw [HM1.out, if_pos (.inr (by rw [HLN.out]; exact hrn))])
      have hr2 : decide ((n4 : Int) ≤ route) = true := by simpa using hrn
      have Lg0 := later_cell g0
      have Lg1 := later_cell g1
      have Lg2 := later_cell g2
      have Lg3 := later_cell g3
      have Lg4 := later_cell g4
      have Li0 := later_cell i0
      have Li1 := later_cell i1
      have Lk0 := later_cell k0
      have Lk1 := later_cell k1
      go_wp2_with fail
      refine wp_region_later (by kernel_rfl) (by kernel_rfl) ?_
      repeat (go_big_quiet_step (fail))
      refine wpQuiet_nil ?_
      intro q0
      go_wp2_with fail
      go_ret
      rw [HF.out]
      exact ⟨rfl, HK.out.stay (below_more Hwa.out q0.hb), only_of (below_more (below_more (by rw [HGN.out]; exact HB.out) Hwa.out) q0.hb)⟩
    have hr2 : decide ((n4 : Int) ≤ route) = false := by simpa using hrn
    have HM2 := Lib.hid (HM1.out.trans (if_neg (by rw [HLN.out]; intro hh; rcases hh with hh | hh; exact hr0 hh; exact hrn hh)))
    obtain ⟨r, rfl⟩ : ∃ r : Nat, route = r := ⟨route.toNat, by omega⟩
    have hrr : r < n4 := by omega
    rw [Int.toNat_natCast] at HM2
    clear HM1 hr0 hrn
    obtain ⟨y, hy⟩ : ∃ y, rs[r]? = some y := ⟨_, List.getElem?_eq_getElem (by have := HLN.out; omega)⟩
    obtain ⟨r0, r1, r2, r3⟩ := row_at (HK.out.stay Hwa.out).row hy
    have HY := Lib.hid hy
    have HM3 : Hid (commandM L I rs 2 (r : Int) = if y.m = 1 then (rs.set r ⟨0, 0, 0, false⟩, 0) else if y.m = 2 then (rs.set r ⟨4, 0, 0, false⟩, 0) else (rs, 7)) := Lib.hid (by
      rw [HM2.out]
      unfold stateAt
      rw [hy]
      rfl)
    clear HM2 hy
    obtain ⟨ym, yt, yg, ys⟩ := y
    simp only at r0 r1 r2 r3 HM3
    have hrn : (r : Int) < n4 := by omega
    have Lg0 := later_cell g0
    have Lg1 := later_cell g1
    have Lg2 := later_cell g2
    have Lg3 := later_cell g3
    have Lg4 := later_cell g4
    have Li0 := later_cell i0
    have Li1 := later_cell i1
    have Lk0 := later_cell k0
    have Lk1 := later_cell k1
    have Lr0 := later_cell r0
    have Lr1 := later_cell r1
    have Lr2 := later_cell r2
    have Lr3 := later_cell r3
    go_wp2_with fail
    refine wp_region_later (by kernel_rfl) (by kernel_rfl) ?_
    repeat (go_big_quiet_step (fail))
    refine wpQuiet_nil ?_
    intro q0
    have hq := q0.hb
    have Hwb := Lib.hid (below_more Hwa.out hq)
    generalize q0.w1 = wb at *
    replace g0 := cell_stay hq g0
    replace g1 := cell_stay hq g1
    replace g2 := cell_stay hq g2
    replace g3 := cell_stay hq g3
    replace g4 := cell_stay hq g4
    replace i0 := cell_stay hq i0
    replace i1 := cell_stay hq i1
    replace k0 := cell_stay hq k0
    replace k1 := cell_stay hq k1
    replace r0 := cell_stay hq r0
    replace r1 := cell_stay hq r1
    replace r2 := cell_stay hq r2
    replace r3 := cell_stay hq r3
    clear hq Lg0 Lg1 Lg2 Lg3 Lg4 Li0 Li1 Lk0 Lk1 Lr0 Lr1 Lr2 Lr3
    by_cases m1 : ym = 1
    · subst m1
      have HF : Hid (commandM L I rs 2 (r : Int) = (rs.set r ⟨0, 0, 0, false⟩, 0)) := Lib.hid (by rw [HM3.out, if_pos rfl])
      clear HM3
      have Lg0 := later_cell g0
      have Lg1 := later_cell g1
      have Lg2 := later_cell g2
      have Lg3 := later_cell g3
      have Lg4 := later_cell g4
      have Li0 := later_cell i0
      have Li1 := later_cell i1
      have Lk0 := later_cell k0
      have Lk1 := later_cell k1
      have Lr0 := later_cell r0
      have Lr1 := later_cell r1
      have Lr2 := later_cell r2
      have Lr3 := later_cell r3
      go_wp2_with fail
      refine wp_region_later (by kernel_rfl) (by kernel_rfl) ?_
      repeat (go_big_quiet_step (fail))
      refine wpQuiet_nil ?_
      intro q0
      have hq := q0.hb
      have Hwc := Lib.hid (below_more Hwb.out hq)
      generalize q0.w1 = wc at *
      replace g0 := cell_stay hq g0
      replace g1 := cell_stay hq g1
      replace g2 := cell_stay hq g2
      replace g3 := cell_stay hq g3
      replace g4 := cell_stay hq g4
      replace i0 := cell_stay hq i0
      replace i1 := cell_stay hq i1
      replace k0 := cell_stay hq k0
      replace k1 := cell_stay hq k1
      replace r0 := cell_stay hq r0
      replace r1 := cell_stay hq r1
      replace r2 := cell_stay hq r2
      replace r3 := cell_stay hq r3
      clear hq Lg0 Lg1 Lg2 Lg3 Lg4 Li0 Li1 Lk0 Lk1 Lr0 Lr1 Lr2 Lr3
      have HKA := Lib.hid (HK.out.stay Hwc.out)
      have HOA := Lib.hid (below_more (by rw [HGN.out]; exact HB.out) Hwc.out)
      go_wp2_with fail
      go_still_tail 8, (by kernel_rfl)
      change wpList _ _ _ _ _ wc.drew
      have f0 := HKA.out.row.free (r * 4)
      have f1 := HKA.out.row.free (r * 4 + 1)
      have f2 := HKA.out.row.free (r * 4 + 2)
      have f3 := HKA.out.row.free (r * 4 + 3)
      go_wp2_with fail
      go_ret
      rw [HF.out]
      exact ⟨rfl, (HKA.out.put4 HY.out ⟨0, 0, 0, false⟩).stay (below_drawn (Below.refl _ _) 1), only_drawn (only_put4 (only_of HOA.out) _ _ _ _ _ _ _ _) 1⟩
    have m1' : (ym == 1) = false := by simp [m1]
    by_cases m2 : ym = 2
    · subst m2
      have HF : Hid (commandM L I rs 2 (r : Int) = (rs.set r ⟨4, 0, 0, false⟩, 0)) := Lib.hid (by rw [HM3.out, if_neg m1, if_pos rfl])
      clear HM3
      have Lg0 := later_cell g0
      have Lg1 := later_cell g1
      have Lg2 := later_cell g2
      have Lg3 := later_cell g3
      have Lg4 := later_cell g4
      have Li0 := later_cell i0
      have Li1 := later_cell i1
      have Lk0 := later_cell k0
      have Lk1 := later_cell k1
      have Lr0 := later_cell r0
      have Lr1 := later_cell r1
      have Lr2 := later_cell r2
      have Lr3 := later_cell r3
      go_wp2_with fail
      refine wp_region_later (by kernel_rfl) (by kernel_rfl) ?_
      repeat (go_big_quiet_step (fail))
      refine wpQuiet_nil ?_
      intro q0
      have Kg0 := Lg0 q0
      have Kg1 := Lg1 q0
      have Kg2 := Lg2 q0
      have Kg3 := Lg3 q0
      have Kg4 := Lg4 q0
      have Ki0 := Li0 q0
      have Ki1 := Li1 q0
      have Kk0 := Lk0 q0
      have Kk1 := Lk1 q0
      have Kr0 := Lr0 q0
      have Kr1 := Lr1 q0
      have Kr2 := Lr2 q0
      have Kr3 := Lr3 q0
      replace Lg0 := later_cell Kg0
      replace Lg1 := later_cell Kg1
      replace Lg2 := later_cell Kg2
      replace Lg3 := later_cell Kg3
      replace Lg4 := later_cell Kg4
      replace Li0 := later_cell Ki0
      replace Li1 := later_cell Ki1
      replace Lk0 := later_cell Kk0
      replace Lk1 := later_cell Kk1
      replace Lr0 := later_cell Kr0
      replace Lr1 := later_cell Kr1
      replace Lr2 := later_cell Kr2
      replace Lr3 := later_cell Kr3
      go_wp2_with fail
      refine wp_region_later (by kernel_rfl) (by kernel_rfl) ?_
      repeat (go_big_quiet_step (fail))
      refine wpQuiet_nil ?_
      intro q1
      have HKA := Lib.hid (HK.out.stay (below_more (below_more Hwb.out q0.hb) q1.hb))
      have HOA := Lib.hid (below_more (below_more (below_more (by rw [HGN.out]; exact HB.out) Hwb.out) q0.hb) q1.hb)
      have J0 := Lr0 q1
      have J1 := Lr1 q1
      have J2 := Lr2 q1
      have J3 := Lr3 q1
      have J4 := Lg4 q1
      have J5 := Lk1 q1
      generalize q1.w1 = wd at *
      go_wp2_with fail
      go_still_tail 8, (by kernel_rfl)
      change wpList _ _ _ _ _ wd.drew
      have f0 := HKA.out.row.free (r * 4)
      have f1 := HKA.out.row.free (r * 4 + 1)
      have f2 := HKA.out.row.free (r * 4 + 2)
      have f3 := HKA.out.row.free (r * 4 + 3)
      go_wp2_with fail
      go_ret
      rw [HF.out]
      exact ⟨rfl, (HKA.out.put4 HY.out ⟨4, 0, 0, false⟩).stay (below_drawn (Below.refl _ _) 1), only_drawn (only_put4 (only_of HOA.out) _ _ _ _ _ _ _ _) 1⟩
    · have m2' : (ym == 2) = false := by simp [m2]
      have HF : Hid (commandM L I rs 2 (r : Int) = (rs, 7)) := Lib.hid (by rw [HM3.out, if_neg m1, if_neg m2])
      clear HM3 m1 m2
      have Lg0 := later_cell g0
      have Lg1 := later_cell g1
      have Lg2 := later_cell g2
      have Lg3 := later_cell g3
      have Lg4 := later_cell g4
      have Li0 := later_cell i0
      have Li1 := later_cell i1
      have Lk0 := later_cell k0
      have Lk1 := later_cell k1
      have Lr0 := later_cell r0
      have Lr1 := later_cell r1
      have Lr2 := later_cell r2
      have Lr3 := later_cell r3
      go_wp2_with fail
      refine wp_region_later (by kernel_rfl) (by kernel_rfl) ?_
      repeat (go_big_quiet_step (fail))
      refine wpQuiet_nil ?_
      intro q0
      have Kg0 := Lg0 q0
      have Kg1 := Lg1 q0
      have Kg2 := Lg2 q0
      have Kg3 := Lg3 q0
      have Kg4 := Lg4 q0
      have Ki0 := Li0 q0
      have Ki1 := Li1 q0
      have Kk0 := Lk0 q0
      have Kk1 := Lk1 q0
      have Kr0 := Lr0 q0
      have Kr1 := Lr1 q0
      have Kr2 := Lr2 q0
      have Kr3 := Lr3 q0
      replace Lg0 := later_cell Kg0
      replace Lg1 := later_cell Kg1
      replace Lg2 := later_cell Kg2
      replace Lg3 := later_cell Kg3
      replace Lg4 := later_cell Kg4
      replace Li0 := later_cell Ki0
      replace Li1 := later_cell Ki1
      replace Lk0 := later_cell Kk0
      replace Lk1 := later_cell Kk1
      replace Lr0 := later_cell Kr0
      replace Lr1 := later_cell Kr1
      replace Lr2 := later_cell Kr2
      replace Lr3 := later_cell Kr3
      go_wp2_with fail
      refine wp_region_later (by kernel_rfl) (by kernel_rfl) ?_
      repeat (go_big_quiet_step (fail))
      refine wpQuiet_nil ?_
      intro q1
      go_wp2_with fail
      go_ret
      rw [HF.out]
      exact ⟨rfl, HK.out.stay (below_more (below_more Hwb.out q0.hb) q1.hb), only_of (below_more (below_more (below_more (by rw [HGN.out]; exact HB.out) Hwb.out) q0.hb) q1.hb)⟩
  case neg =>
    have HF : Hid (commandM L I rs kind route = (rs, 1)) := Lib.hid (by rw [HM.out, if_pos ⟨hk1, hk2⟩])
    have k1' : (kind != 1) = true := by simp [hk1]
    have k2' : (kind != 2) = true := by simp [hk2]
    have k3' : decide (kind = 1) = false := by simp [hk1]
    have k4' : decide (kind = 2) = false := by simp [hk2]
    clear HM hk1 hk2
    have Lg0 := later_cell g0
    have Lg1 := later_cell g1
    have Lg2 := later_cell g2
    have Lg3 := later_cell g3
    have Lg4 := later_cell g4
    have Li0 := later_cell i0
    have Li1 := later_cell i1
    have Lk0 := later_cell k0
    have Lk1 := later_cell k1
    refine wp_region_later (by kernel_rfl) (by kernel_rfl) ?_
    repeat (go_big_quiet_step ((first | (go_at_call 10; rename_i z; exact later_call z (KM1.out z)) | fail)))
    refine wpQuiet_nil ?_
    intro q0
    go_wp2_with fail
    go_ret
    rw [HF.out]
    exact ⟨rfl, HK.out.stay q0.hb, only_of (below_more (by rw [HGN.out]; exact HB.out) q0.hb)⟩
end
end Go.Proofs.YtmdggodkkkihhaaDoor
