/- Texts put together for a claim. -/
import Derived.Test.YtmdggodkkkihhaaDoorQ16JudgeLocks
import Derived.Deep.RegionHeld3
import Derived.Deep.DeepCutAuto
/- Contract of table.Conflict. -/
set_option linter.unusedVariables false
set_option linter.unusedSimpArgs false
namespace Go.Proofs.YtmdggodkkkihhaaDoor
open Go.RowKit

theorem enter_cf1 (args : Array Value) (w : World) : (callFunc 60 args).run Tryd.prog w = .ok (.enter 60 args) w := by kernel_rfl
theorem enter_cf2 (args : Array Value) (w : World) : (callFunc 62 args).run Tryd.prog w = .ok (.enter 62 args) w := by kernel_rfl
set_option maxRecDepth 20000 in
set_option maxHeartbeats 2000000 in
theorem Cf1_calls (W : World) (g p pc : Nat) (P : Option Addr) (ys : List Int) (hc : W.cell? ⟨g, 3, none⟩ = some (.slice P p pc)) (hy : Sl flI W P p pc ys) (a : Int) :
    Calls Tryd.prog 60 #[.int .i64 a, .pointer (some ⟨g, 0, none⟩)] W fun e w' => e = .returned (.bool (ys.any fun z => decide (a = z))) ∧ Below W.heap.size W w' := by
  have K := Lib.hid (CTI_calls W P p pc ys hy a)
  clear hy
  go_enter Tryd.func60, Tryd.ntmps60
  go_wp2_with (refine K.out.mono ?_; rintro e w1 ⟨rfl, hb⟩)
  go_ret
  exact ⟨rfl, hb⟩
/-- A layout's box, and another's number's box. -/
theorem LayV.box {w : World} {L : Lay} {A1 A2 A3 A4 : Option Addr} {n1 c1 n2 c2 n3 c3 n4 c4 : Nat} (h : LayV w L A1 A2 A3 A4 n1 c1 n2 c2 n3 c3 n4 c4) : n4 = L.rtes.length := h.rtes.len.symm
set_option maxRecDepth 20000 in
set_option maxHeartbeats 4000000 in
theorem Cf2_calls (W : World) (L : Lay) (A1 A2 A3 A4 : Option Addr) (n1 c1 n2 c2 n3 c3 n4 c4 : Nat) (hL : LayV W L A1 A2 A3 A4 n1 c1 n2 c2 n3 c3 n4 c4) (s : Nat) (y : Rte) (hs : L.rtes[s]? = some y) (hy : y.points.length + y.flank.length ≤ 8796093022208)
    (g k : Nat) (b0 : W.cell? ⟨g, 0, none⟩ = some (.slice A1 n1 c1)) (b1 : W.cell? ⟨g, 1, none⟩ = some (.slice A2 n2 c2)) (b2 : W.cell? ⟨g, 2, none⟩ = some (.slice A3 n3 c3)) (b3 : W.cell? ⟨g, 3, none⟩ = some (.slice A4 n4 c4))
    (hk : W.cell? ⟨k, 0, none⟩ = some (.int .i64 s)) (x : Need) :
    Calls Tryd.prog 62 #[.agg #[.int .i64 x.p, .bool x.r], .pointer (some ⟨g, 0, none⟩), .pointer (some ⟨k, 0, none⟩)] W fun e w' => e = .returned (.bool ((y.points ++ y.flank).any fun m => decide ((⟨x.p, !x.r⟩ : Need) = m))) ∧ Below W.heap.size W w' := by
  have hw0 := below_new W (.cells #[.int .i64 x.p, .bool x.r] 78)
  have hB := Blk.new W #[.int .i64 x.p, .bool x.r] 78 (0, 0)
  have d0 := hB.cell 0
  have d1 := hB.cell 1
  simp only [List.getElem?_toArray, List.getElem?_cons_zero, List.getElem?_cons_succ] at d0 d1
  have b0 := cell_stay hw0 b0
  have b1 := cell_stay hw0 b1
  have b2 := cell_stay hw0 b2
  have b3 := cell_stay hw0 b3
  have hk := cell_stay hw0 hk
  have HL := Lib.hid (hL.stay hw0)
  have HS := Lib.hid hs
  clear hL hs hB
  go_enter Tryd.func62, Tryd.ntmps62
  go_wp2_with fail
  generalize hgk : W.heap.size = gn at *
  have HG := Lib.hid hgk
  generalize (W.alloc (.cells #[.int .i64 x.p, .bool x.r] 78)) = W0 at *
  clear hgk
  have hd : Below W0.heap.size W0 W0.drew := below_drawn (Below.refl _ _) 1
  go_region_held3 (fun w' => w'.cell? ⟨g, 0, none⟩ = some (.slice A1 n1 c1) ∧ w'.cell? ⟨g, 1, none⟩ = some (.slice A2 n2 c2) ∧ w'.cell? ⟨g, 2, none⟩ = some (.slice A3 n3 c3) ∧ w'.cell? ⟨g, 3, none⟩ = some (.slice A4 n4 c4) ∧
      w'.cell? ⟨k, 0, none⟩ = some (.int .i64 s) ∧ w'.cell? ⟨gn, 0, none⟩ = some (.int .i64 x.p) ∧ w'.cell? ⟨gn, 1, none⟩ = some (.bool x.r))
    (first | exact ⟨b0, b1, b2, b3, hk, d0, d1⟩ | exact ⟨cell_stay HQ.out.2 b0, cell_stay HQ.out.2 b1, cell_stay HQ.out.2 b2, cell_stay HQ.out.2 b3, cell_stay HQ.out.2 hk, cell_stay HQ.out.2 d0, cell_stay HQ.out.2 d1⟩ | exact ⟨cell_stay HT.out b0, cell_stay HT.out b1, cell_stay HT.out b2, cell_stay HT.out b3, cell_stay HT.out hk, cell_stay HT.out d0, cell_stay HT.out d1⟩)
    (first
      | (go_at_call 52; refine (Needs_calls W0.drew L A1 A2 A3 A4 n1 c1 n2 c2 n3 c3 n4 c4 (HL.out.stay hd) s y HS.out hy).mono ?_; rintro e w5 ⟨A5, n5, c5, rfl, hq5, hb5⟩; have HQ := Lib.hid (And.intro hq5 (below_more hd hb5)); clear hq5 hb5)
      | (go_at_call 63; refine (CTN_calls w5 A5 n5 c5 (y.points ++ y.flank) HQ.out.1 (⟨x.p, !x.r⟩ : Need)).mono ?_; rintro e w6 ⟨rfl, hb6⟩; have HT := Lib.hid (below_more HQ.out.2 hb6); clear hb6)
      | fail)
  go_wp2_with fail
  go_ret
  exact ⟨by rw [List.any_append]; rfl, below_more (by rw [HG.out]; exact hw0) HT.out⟩
/-- Does the one exclude the other? -/
def conflictM (r s : Nat) (x y : Rte) : Bool :=
  decide ((r : Int) = s) || decide (x.frm = y.frm) || x.path.any (fun a => y.path.any fun z => decide (a = z)) || (x.points ++ x.flank).any fun n => (y.points ++ y.flank).any fun m => decide ((⟨n.p, !n.r⟩ : Need) = m)
set_option maxRecDepth 20000 in
set_option maxHeartbeats 4000000 in
theorem Conflict_calls (w : World) (L : Lay) (A1 A2 A3 A4 : Option Addr) (n1 c1 n2 c2 n3 c3 n4 c4 : Nat) (hL : LayV w L A1 A2 A3 A4 n1 c1 n2 c2 n3 c3 n4 c4) (r s : Nat) (x y : Rte) (hr : L.rtes[r]? = some x) (hs : L.rtes[s]? = some y)
    (hx : x.points.length + x.flank.length ≤ 8796093022208) (hy : y.points.length + y.flank.length ≤ 8796093022208) :
    Calls Tryd.prog 48 #[.agg #[.slice A1 n1 c1, .slice A2 n2 c2, .slice A3 n3 c3, .slice A4 n4 c4], .int .i64 r, .int .i64 s] w fun e w' => e = .returned (.bool (conflictM r s x y)) ∧ Below w.heap.size w w' := by
  have hlr : r < n4 := by
    have := hL.rtes.len
    have := (List.getElem?_eq_some_iff.1 hr).1
    omega
  have hls : s < n4 := by
    have := hL.rtes.len
    have := (List.getElem?_eq_some_iff.1 hs).1
    omega
  have hcap := Nat.le_trans hL.rtes.le hL.rtes.cap
  obtain ⟨b, off, x', P, Q, F, p, pc, q, qc, f, fc, rfl, hx', k0, k1, k2, k3, k4, k5, hv⟩ := hL.rtes.at_ hlr
  obtain rfl : x = x' := by rw [hr] at hx'; exact Option.some.inj hx'
  obtain ⟨b2, off2, y', P2, Q2, F2, p2, pc2, q2, qc2, f2, fc2, e2, hy', m0, m1, m2, m3, m4, m5, hu⟩ := hL.rtes.at_ hls
  obtain rfl : y = y' := by rw [hs] at hy'; exact Option.some.inj hy'
  obtain ⟨rfl, rfl⟩ : b = b2 ∧ off = off2 := by simpa using e2
  have hw0 : Below w.heap.size w ((w.alloc (.cells #[.slice A1 n1 c1, .slice A2 n2 c2, .slice A3 n3 c3, .slice (some ⟨b, off, none⟩) n4 c4] 26)).alloc (.cells #[.int .i64 s] 3)) := (below_new w _).alloc (by simp) _
  have hB := (Blk.new w #[.slice A1 n1 c1, .slice A2 n2 c2, .slice A3 n3 c3, .slice (some ⟨b, off, none⟩) n4 c4] 26 (0, 0)).alloc (.cells #[.int .i64 s] 3)
  have hC := Blk.at_ (w := w.alloc (.cells #[.slice A1 n1 c1, .slice A2 n2 c2, .slice A3 n3 c3, .slice (some ⟨b, off, none⟩) n4 c4] 26)) (g := w.heap.size + 1) (by simp) #[.int .i64 s] 3 (0, 0)
  have l0 := hB.cell 0
  have l1 := hB.cell 1
  have l2 := hB.cell 2
  have l3 := hB.cell 3
  have s0 := hC.cell 0
  simp only [List.getElem?_toArray, List.getElem?_cons_zero, List.getElem?_cons_succ] at l0 l1 l2 l3 s0
  have k0 := cell_stay hw0 k0
  have k1 := cell_stay hw0 k1
  have k2 := cell_stay hw0 k2
  have k3 := cell_stay hw0 k3
  have k4 := cell_stay hw0 k4
  have k5 := cell_stay hw0 k5
  have m0 := cell_stay hw0 m0
  have m1 := cell_stay hw0 m1
  have m2 := cell_stay hw0 m2
  have m3 := cell_stay hw0 m3
  have m4 := cell_stay hw0 m4
  have m5 := cell_stay hw0 m5
  have HL := Lib.hid (hL.stay hw0)
  have HV := Lib.hid (hv.stay hw0)
  have HU := Lib.hid (hu.stay hw0)
  have HR := Lib.hid hr
  have HS := Lib.hid hs
  clear hL hr hs hx' hy' e2 hv hu
  go_enter Tryd.func48, Tryd.ntmps48
  go_upto_region 1 with fail
  have HG := Lib.hid (show w.heap.size = w.heap.size from rfl)
  have hsz : ((w.alloc (.cells #[.slice A1 n1 c1, .slice A2 n2 c2, .slice A3 n3 c3, .slice (some ⟨b, off, none⟩) n4 c4] 26)).alloc (.cells #[.int .i64 s] 3)).heap.size = w.heap.size + 2 := by simp
  generalize hW0 : ((w.alloc (.cells #[.slice A1 n1 c1, .slice A2 n2 c2, .slice A3 n3 c3, .slice (some ⟨b, off, none⟩) n4 c4] 26)).alloc (.cells #[.int .i64 s] 3)) = W0 at *
  clear hW0
  have HB0 := Lib.hid hw0
  generalize hgn : w.heap.size = gn at *
  clear hw0 hB hC
  go_cut [7, 8] (fun s7 s8 wx => ∃ g7 g8 : Nat, s7 = .pointer (some ⟨g7, 0, none⟩) ∧ s8 = .pointer (some ⟨g8, 0, none⟩) ∧ Below W0.heap.size W0 wx ∧
    Blk wx g7 #[.string x.name, .int .i64 x.frm, .int .i64 x.dest, .slice P p pc, .slice Q q qc, .slice F f fc] 62 (0, 0) ∧ Blk wx g8 #[.string y.name, .int .i64 y.frm, .int .i64 y.dest, .slice P2 p2 pc2, .slice Q2 q2 qc2, .slice F2 f2 fc2] 62 (0, 0))
  case first =>
    have KEEP := Lib.hid (fun (w' : World) (hb : Below W0.heap.size W0 w') => (⟨cell_stay hb l3, cell_stay hb s0, cell_stay hb k0, cell_stay hb k1, cell_stay hb k2, cell_stay hb k3, cell_stay hb k4, cell_stay hb k5, cell_stay hb m0, cell_stay hb m1, cell_stay hb m2, cell_stay hb m3, cell_stay hb m4, cell_stay hb m5⟩ : 
      w'.cell? ⟨gn, 3, none⟩ = some (.slice (some ⟨b, off, none⟩) n4 c4) ∧ w'.cell? ⟨gn + 1, 0, none⟩ = some (.int .i64 s) ∧
      w'.cell? ⟨b, off + r * 6, none⟩ = some (.string x.name) ∧ w'.cell? ⟨b, off + r * 6 + 1, none⟩ = some (.int .i64 x.frm) ∧ w'.cell? ⟨b, off + r * 6 + 2, none⟩ = some (.int .i64 x.dest) ∧ w'.cell? ⟨b, off + r * 6 + 3, none⟩ = some (.slice P p pc) ∧ w'.cell? ⟨b, off + r * 6 + 4, none⟩ = some (.slice Q q qc) ∧ w'.cell? ⟨b, off + r * 6 + 5, none⟩ = some (.slice F f fc) ∧
      w'.cell? ⟨b, off + s * 6, none⟩ = some (.string y.name) ∧ w'.cell? ⟨b, off + s * 6 + 1, none⟩ = some (.int .i64 y.frm) ∧ w'.cell? ⟨b, off + s * 6 + 2, none⟩ = some (.int .i64 y.dest) ∧ w'.cell? ⟨b, off + s * 6 + 3, none⟩ = some (.slice P2 p2 pc2) ∧ w'.cell? ⟨b, off + s * 6 + 4, none⟩ = some (.slice Q2 q2 qc2) ∧ w'.cell? ⟨b, off + s * 6 + 5, none⟩ = some (.slice F2 f2 fc2)))
    clear l0 l1 l2
    go_region_held3 (fun w' => w'.cell? ⟨gn, 3, none⟩ = some (.slice (some ⟨b, off, none⟩) n4 c4) ∧ w'.cell? ⟨gn + 1, 0, none⟩ = some (.int .i64 s) ∧
      w'.cell? ⟨b, off + r * 6, none⟩ = some (.string x.name) ∧ w'.cell? ⟨b, off + r * 6 + 1, none⟩ = some (.int .i64 x.frm) ∧ w'.cell? ⟨b, off + r * 6 + 2, none⟩ = some (.int .i64 x.dest) ∧ w'.cell? ⟨b, off + r * 6 + 3, none⟩ = some (.slice P p pc) ∧ w'.cell? ⟨b, off + r * 6 + 4, none⟩ = some (.slice Q q qc) ∧ w'.cell? ⟨b, off + r * 6 + 5, none⟩ = some (.slice F f fc) ∧
      w'.cell? ⟨b, off + s * 6, none⟩ = some (.string y.name) ∧ w'.cell? ⟨b, off + s * 6 + 1, none⟩ = some (.int .i64 y.frm) ∧ w'.cell? ⟨b, off + s * 6 + 2, none⟩ = some (.int .i64 y.dest) ∧ w'.cell? ⟨b, off + s * 6 + 3, none⟩ = some (.slice P2 p2 pc2) ∧ w'.cell? ⟨b, off + s * 6 + 4, none⟩ = some (.slice Q2 q2 qc2) ∧ w'.cell? ⟨b, off + s * 6 + 5, none⟩ = some (.slice F2 f2 fc2))
      ((refine KEEP.out _ ?_; repeat (first | exact Below.refl _ _ | refine Below.alloc ?_ (by first | (simp; omega) | simp | omega) _ | refine Below.setCell ?_ (by first | (simp; omega) | simp | omega) _ | refine Below.drew ?_)))
      (first | fail | fail)
    all_goals (go_wp2_with fail; go_meet)
    · exact ⟨gn + 2, gn + 2 + 1, rfl, rfl, by (repeat (first | exact Below.refl _ _ | refine Below.alloc ?_ (by first | (simp; omega) | simp | omega) _ | refine Below.drew ?_)), (Blk.at_ hsz.symm _ _ _).alloc _, Blk.at_ (by simp; omega) _ _ _⟩
    · exact ⟨gn + 2 + 1, gn + 2, rfl, rfl, by (repeat (first | exact Below.refl _ _ | refine Below.alloc ?_ (by first | (simp; omega) | simp | omega) _ | refine Below.drew ?_)), Blk.at_ (by simp; omega) _ _ _, (Blk.at_ hsz.symm _ _ _).alloc _⟩
  case rest =>
    obtain ⟨g7, g8, rfl, rfl, hbx, hb7, hb8⟩ := hcut
    have c71 := hb7.cell 1
    have c73 := hb7.cell 3
    have c81 := hb8.cell 1
    have c83 := hb8.cell 3
    simp only [List.getElem?_toArray, List.getElem?_cons_zero, List.getElem?_cons_succ] at c71 c73 c81 c83
    have HBX := Lib.hid hbx
    have K2 := Lib.hid (CFI_calls _ P p pc x.path (HV.out.stay hbx).path 60 #[.pointer (some ⟨g8, 0, none⟩)] enter_cf1 (fun a => y.path.any fun z => decide (a = z))
      (fun W a _ hW => (Cf1_calls W g8 p2 pc2 P2 y.path (cell_stay hW c83) ((HU.out.stay hbx).path.stay hW) a).mono fun e w' h => ⟨h.1, below_more hW h.2⟩))
    have L0 := cell_stay hbx l0
    have L1 := cell_stay hbx l1
    have L2 := cell_stay hbx l2
    have L3 := cell_stay hbx l3
    have S0 := cell_stay hbx s0
    clear l0 l1 l2 l3 s0 k0 k1 k2 k3 k4 k5 m0 m1 m2 m3 m4 m5 hb7 hb8 hbx
    generalize hr1 : (x.path.any fun a => y.path.any fun z => decide (a = z)) = r1 at *
    have HR1 := Lib.hid hr1
    clear hr1
    go_wp2_with (first
      | (go_at_call 44; refine K2.out.mono ?_; rintro e w1 ⟨rfl, hb1⟩; have d71 := cell_stay hb1 c71; have d81 := cell_stay hb1 c81; have L0 := cell_stay hb1 L0; have L1 := cell_stay hb1 L1; have L2 := cell_stay hb1 L2; have L3 := cell_stay hb1 L3; have S0 := cell_stay hb1 S0; have HB1 := Lib.hid (below_more HBX.out hb1); clear hb1 c71 c81)
      | (go_at_call 52; refine (Needs_calls w1 L A1 A2 A3 _ n1 c1 n2 c2 n3 c3 n4 c4 (HL.out.stay HB1.out) r x HR.out hx).mono ?_; rintro e w2 ⟨A5, n5, c5, rfl, hq5, hb5⟩; have e71 := cell_stay hb5 d71; have e81 := cell_stay hb5 d81; have L0 := cell_stay hb5 L0; have L1 := cell_stay hb5 L1; have L2 := cell_stay hb5 L2; have L3 := cell_stay hb5 L3; have S0 := cell_stay hb5 S0; have HB5 := Lib.hid (below_more HB1.out hb5); have HQ5 := Lib.hid hq5; clear hb5 hq5 d71 d81)
      | (go_at_call 53; refine (CFN_calls w2 A5 n5 c5 (x.points ++ x.flank) HQ5.out 62 #[.pointer (some ⟨gn, 0, none⟩), .pointer (some ⟨gn + 1, 0, none⟩)] enter_cf2 (fun n => (y.points ++ y.flank).any fun m => decide ((⟨n.p, !n.r⟩ : Need) = m)) (fun W a _ hW => (Cf2_calls W L A1 A2 A3 _ n1 c1 n2 c2 n3 c3 n4 c4 ((HL.out.stay HB5.out).stay hW) s y HS.out hy gn (gn + 1) (cell_stay hW L0) (cell_stay hW L1) (cell_stay hW L2) (cell_stay hW L3) (cell_stay hW S0) a).mono fun e w' h => ⟨h.1, below_more hW h.2⟩)).mono ?_; rintro e w3 ⟨rfl, hb6⟩; generalize hr2 : ((x.points ++ x.flank).any fun n => (y.points ++ y.flank).any fun m => decide ((⟨n.p, !n.r⟩ : Need) = m)) = r2; have HR2 := Lib.hid hr2; have e71 := cell_stay hb6 e71; have e81 := cell_stay hb6 e81; have S0 := cell_stay hb6 S0; have HB6 := Lib.hid (below_more HB5.out hb6); clear hb6 hr2 L0 L1 L2 L3)
      | fail)
    all_goals go_ret
    all_goals refine ⟨ret_bool ?_, below_more (by rw [hgn]; exact HB0.out) HB6.out⟩
    all_goals (unfold conflictM; rw [HR1.out, HR2.out]; simp [*])
end Go.Proofs.YtmdggodkkkihhaaDoor

/- Contracts of judge.position and judge.isClear. -/
set_option linter.unusedVariables false
set_option linter.unusedSimpArgs false
namespace Go.Proofs.YtmdggodkkkihhaaDoor
open Go.RowKit

/-- How a point must lie. -/
def posM (x : Need) : Int := if x.r then 2 else 1
theorem Pos_calls (W : World) (x : Need) : Calls Tryd.prog 55 #[.agg #[.int .i64 x.p, .bool x.r]] W fun e w' => e = .returned (.int .i64 (posM x)) ∧ Below W.heap.size W w' := by
  have hw0 := below_new W (.cells #[.int .i64 x.p, .bool x.r] 78)
  obtain ⟨p, r⟩ := x
  unfold posM
  cases r with
  | true =>
    go_enter Tryd.func55, Tryd.ntmps55
    go_wp2_with fail
    go_ret
    exact ⟨rfl, hw0⟩
  | false =>
    go_enter Tryd.func55, Tryd.ntmps55
    go_wp2_with fail
    go_ret
    exact ⟨rfl, hw0⟩
/-- A box with what the field tells. -/
structure InB (w : World) (g : Nat) (I : Inn) (A B : Option Addr) (n c m d : Nat) : Prop where
  c0 : w.cell? ⟨g, 0, none⟩ = some (.slice A n c)
  c1 : w.cell? ⟨g, 1, none⟩ = some (.slice B m d)
  v : InV w I A B n c m d
theorem InB.stay {w w1 : World} {g : Nat} {I : Inn} {A B : Option Addr} {n c m d : Nat} (h : InB w g I A B n c m d) (hb : Below w.heap.size w w1) : InB w1 g I A B n c m d := ⟨cell_stay hb h.c0, cell_stay hb h.c1, h.v.stay hb⟩
theorem enter_ic1 (args : Array Value) (w : World) : (callFunc 64 args).run Tryd.prog w = .ok (.enter 64 args) w := by kernel_rfl
theorem enter_ic2 (args : Array Value) (w : World) : (callFunc 65 args).run Tryd.prog w = .ok (.enter 65 args) w := by kernel_rfl
theorem getD_of {α : Type} {xs : List α} {j : Nat} {x d : α} (h : xs[j]? = some x) : xs.getD j d = x := by
  rw [List.getD_eq_getElem?_getD, h]; rfl
set_option maxRecDepth 20000 in
set_option maxHeartbeats 2000000 in
theorem Ic1_calls (W : World) (g : Nat) (I : Inn) (A B : Option Addr) (n c m d : Nat) (h : InB W g I A B n c m d) (a : Int) (h0 : 0 ≤ a) (h1 : a < I.occ.length) :
    Calls Tryd.prog 64 #[.int .i64 a, .pointer (some ⟨g, 0, none⟩)] W fun e w' => e = .returned (.bool (I.occ.getD a.toNat false)) ∧ Below W.heap.size W w' := by
  obtain ⟨k, rfl⟩ : ∃ k : Nat, a = k := ⟨a.toNat, by omega⟩
  have hk : k < n := by have := h.v.occ.len; omega
  have hcap := Nat.le_trans h.v.occ.le h.v.occ.cap
  obtain ⟨b, off, x, rfl, hx, cx⟩ := h.v.occ.tru hk
  have HF := Lib.hid (getD_of (d := false) hx)
  have c0 := h.c0
  clear h hx h0 h1
  go_enter Tryd.func64, Tryd.ntmps64
  go_wp2_with fail
  go_ret
  exact ⟨ret_bool (by rw [Int.toNat_natCast, HF.out]), Below.refl _ _⟩
set_option maxRecDepth 20000 in
set_option maxHeartbeats 4000000 in
theorem Ic2_calls (W : World) (g : Nat) (I : Inn) (A B : Option Addr) (n c m d : Nat) (h : InB W g I A B n c m d) (x : Need) (h0 : 0 ≤ x.p) (h1 : x.p < I.lies.length) :
    Calls Tryd.prog 65 #[.agg #[.int .i64 x.p, .bool x.r], .pointer (some ⟨g, 0, none⟩)] W fun e w' => e = .returned (.bool (decide (I.lies.getD x.p.toNat 0 ≠ posM x))) ∧ Below W.heap.size W w' := by
  obtain ⟨p, r⟩ := x
  simp only at h0 h1 ⊢
  obtain ⟨k, rfl⟩ : ∃ k : Nat, p = k := ⟨p.toNat, by omega⟩
  have hk : k < m := by have := h.v.lies.len; omega
  have hcap := Nat.le_trans h.v.lies.le h.v.lies.cap
  obtain ⟨b, off, y, rfl, hy, cy⟩ := h.v.lies.int hk
  have HF := Lib.hid (getD_of (d := 0) hy)
  have c1 := h.c1
  have hw0 := below_new W (.cells #[.int .i64 (k : Int), .bool r] 78)
  have hB := Blk.new W #[.int .i64 (k : Int), .bool r] 78 (0, 0)
  have d0 := hB.cell 0
  have d1 := hB.cell 1
  simp only [List.getElem?_toArray, List.getElem?_cons_zero, List.getElem?_cons_succ] at d0 d1
  have c1 := cell_stay hw0 c1
  have cy := cell_stay hw0 cy
  clear h hy h0 h1 hB
  go_enter Tryd.func65, Tryd.ntmps65
  go_wp2_with fail
  have HW := Lib.hid hw0
  have HG := Lib.hid (show W.heap.size = W.heap.size from rfl)
  generalize hgn : W.heap.size = gn at *
  have HGN := Lib.hid hgn
  clear hgn hw0
  generalize (W.alloc (.cells #[.int .i64 (k : Int), .bool r] 78)) = W0 at *
  have KP := fun W1 => Pos_calls W1 ⟨(k : Int), r⟩
  generalize hz : posM ⟨(k : Int), r⟩ = z at KP
  have HZ := Lib.hid hz
  clear hz
  have hd : Below W0.heap.size W0 W0.drew := below_drawn (Below.refl _ _) 1
  go_region_held3 (fun w' => w'.cell? ⟨g, 1, none⟩ = some (.slice (some ⟨b, off, none⟩) m d) ∧ w'.cell? ⟨b, off + k, none⟩ = some (.int .i64 y) ∧ w'.cell? ⟨gn, 0, none⟩ = some (.int .i64 (k : Int)) ∧ w'.cell? ⟨gn, 1, none⟩ = some (.bool r))
    (first | exact ⟨c1, cy, d0, d1⟩ | exact ⟨cell_stay HQ.out c1, cell_stay HQ.out cy, cell_stay HQ.out d0, cell_stay HQ.out d1⟩)
    (first
      | (go_at_call 55; refine (KP _).mono ?_; rintro e w5 ⟨rfl, hb5⟩; have HQ := Lib.hid (below_more hd hb5); clear hb5)
      | fail)
  go_wp2_with fail
  go_ret
  refine ⟨ret_bool (by rw [Int.toNat_natCast, HF.out, HZ.out]; simp [bne, BEq.beq]), below_more (by rw [HGN.out]; exact HW.out) HQ.out⟩
/-- A box with a layout. -/
structure LayB (w : World) (g : Nat) (L : Lay) (A1 A2 A3 A4 : Option Addr) (n1 c1 n2 c2 n3 c3 n4 c4 : Nat) : Prop where
  b0 : w.cell? ⟨g, 0, none⟩ = some (.slice A1 n1 c1)
  b1 : w.cell? ⟨g, 1, none⟩ = some (.slice A2 n2 c2)
  b2 : w.cell? ⟨g, 2, none⟩ = some (.slice A3 n3 c3)
  b3 : w.cell? ⟨g, 3, none⟩ = some (.slice A4 n4 c4)
  v : LayV w L A1 A2 A3 A4 n1 c1 n2 c2 n3 c3 n4 c4
theorem LayB.stay {w w1 : World} {g : Nat} {L : Lay} {A1 A2 A3 A4 : Option Addr} {n1 c1 n2 c2 n3 c3 n4 c4 : Nat} (h : LayB w g L A1 A2 A3 A4 n1 c1 n2 c2 n3 c3 n4 c4) (hb : Below w.heap.size w w1) : LayB w1 g L A1 A2 A3 A4 n1 c1 n2 c2 n3 c3 n4 c4 := ⟨cell_stay hb h.b0, cell_stay hb h.b1, cell_stay hb h.b2, cell_stay hb h.b3, h.v.stay hb⟩
/-- A route's numbers are there. -/
structure RteOk (I : Inn) (x : Rte) : Prop where
  path : ∀ a ∈ x.path, 0 ≤ a ∧ a < I.occ.length
  need : ∀ a ∈ x.points ++ x.flank, 0 ≤ a.p ∧ a.p < I.lies.length
  few : x.points.length + x.flank.length ≤ 8796093022208
/-- Is a route clear, and does all that it needs lie so? -/
def clearM (I : Inn) (x : Rte) : Bool := !(x.path.any fun a => I.occ.getD a.toNat false) && !((x.points ++ x.flank).any fun n => decide (I.lies.getD n.p.toNat 0 ≠ posM n))
set_option maxRecDepth 20000 in
set_option maxHeartbeats 4000000 in
theorem IsClear_calls (w : World) (L : Lay) (A1 A2 A3 A4 : Option Addr) (n1 c1 n2 c2 n3 c3 n4 c4 : Nat) (hL : LayV w L A1 A2 A3 A4 n1 c1 n2 c2 n3 c3 n4 c4) (I : Inn) (C D : Option Addr) (n c m d : Nat) (hI : InV w I C D n c m d) (r : Nat) (x : Rte) (hr : L.rtes[r]? = some x) (hx : RteOk I x) :
    Calls Tryd.prog 49 #[.agg #[.slice A1 n1 c1, .slice A2 n2 c2, .slice A3 n3 c3, .slice A4 n4 c4], .agg #[.slice C n c, .slice D m d], .int .i64 r] w fun e w' => e = .returned (.bool (clearM I x)) ∧ Below w.heap.size w w' := by
  have hlr : r < n4 := by
    have := hL.rtes.len
    have := (List.getElem?_eq_some_iff.1 hr).1
    omega
  have hcap := Nat.le_trans hL.rtes.le hL.rtes.cap
  obtain ⟨b, off, x', P, Q, F, p, pc, q, qc, f, fc, rfl, hx', k0, k1, k2, k3, k4, k5, hv⟩ := hL.rtes.at_ hlr
  obtain rfl : x = x' := by rw [hr] at hx'; exact Option.some.inj hx'
  have hw0 : Below w.heap.size w ((w.alloc (.cells #[.slice A1 n1 c1, .slice A2 n2 c2, .slice A3 n3 c3, .slice (some ⟨b, off, none⟩) n4 c4] 26)).alloc (.cells #[.slice C n c, .slice D m d] 30)) := (below_new w _).alloc (by simp) _
  have hB := (Blk.new w #[.slice A1 n1 c1, .slice A2 n2 c2, .slice A3 n3 c3, .slice (some ⟨b, off, none⟩) n4 c4] 26 (0, 0)).alloc (.cells #[.slice C n c, .slice D m d] 30)
  have hC := Blk.at_ (w := w.alloc (.cells #[.slice A1 n1 c1, .slice A2 n2 c2, .slice A3 n3 c3, .slice (some ⟨b, off, none⟩) n4 c4] 26)) (g := w.heap.size + 1) (by simp) #[.slice C n c, .slice D m d] 30 (0, 0)
  have l0 := hB.cell 0
  have l1 := hB.cell 1
  have l2 := hB.cell 2
  have l3 := hB.cell 3
  have s0 := hC.cell 0
  have s1 := hC.cell 1
  simp only [List.getElem?_toArray, List.getElem?_cons_zero, List.getElem?_cons_succ] at l0 l1 l2 l3 s0 s1
  have k3 := cell_stay hw0 k3
  have HI := Lib.hid (InB.mk s0 s1 (hI.stay hw0))
  have HL := Lib.hid (hL.stay hw0)
  have HV := Lib.hid (hv.stay hw0)
  have HR := Lib.hid hr
  have HX := Lib.hid hx
  clear hL hI hr hx' hv hx k0 k1 k2 k4 k5 hB hC
  go_enter Tryd.func49, Tryd.ntmps49
  go_upto_region 3 with fail
  generalize hW0 : ((w.alloc (.cells #[.slice A1 n1 c1, .slice A2 n2 c2, .slice A3 n3 c3, .slice (some ⟨b, off, none⟩) n4 c4] 26)).alloc (.cells #[.slice C n c, .slice D m d] 30)) = W0 at *
  clear hW0
  have HB0 := Lib.hid hw0
  generalize hgn : w.heap.size = gn at *
  have HGN := Lib.hid hgn
  clear hw0 hgn
  have K2 := Lib.hid (CFI_calls W0 P p pc x.path HV.out.path 64 #[.pointer (some ⟨gn + 1, 0, none⟩)] enter_ic1 (fun a => I.occ.getD a.toNat false)
      (fun W a ha hW => (Ic1_calls W (gn + 1) I C D n c m d (HI.out.stay hW) a (HX.out.path a ha).1 (HX.out.path a ha).2).mono fun e w' h => ⟨h.1, below_more hW h.2⟩))
  generalize hr1 : (x.path.any fun a => I.occ.getD a.toNat false) = r1 at *
  have HR1 := Lib.hid hr1
  clear hr1
  cases r1 with
  | true =>
    go_wp2_with (first
      | (go_at_call 44; refine K2.out.mono ?_; rintro e w1 ⟨rfl, hb1⟩)
      | fail)
    go_ret
    exact ⟨ret_bool (by unfold clearM; rw [HR1.out]; rfl), below_more (by rw [HGN.out]; exact HB0.out) hb1⟩
  | false =>
    go_wp2_with (first
      | (go_at_call 44; refine K2.out.mono ?_; rintro e w1 ⟨rfl, hb1⟩; have l0 := cell_stay hb1 l0; have l1 := cell_stay hb1 l1; have l2 := cell_stay hb1 l2; have l3 := cell_stay hb1 l3; have HB1 := Lib.hid hb1; clear hb1)
      | (go_at_call 52; refine (Needs_calls w1 L A1 A2 A3 _ n1 c1 n2 c2 n3 c3 n4 c4 (HL.out.stay HB1.out) r x HR.out HX.out.few).mono ?_; rintro e w2 ⟨A5, n5, c5, rfl, hq5, hb5⟩; have HB5 := Lib.hid (below_more HB1.out hb5); have HQ5 := Lib.hid hq5; clear hb5 hq5)
      | (go_at_call 53; refine (CFN_calls w2 A5 n5 c5 (x.points ++ x.flank) HQ5.out 65 #[.pointer (some ⟨gn + 1, 0, none⟩)] enter_ic2 (fun n => decide (I.lies.getD n.p.toNat 0 ≠ posM n)) (fun W a ha hW => (Ic2_calls W (gn + 1) I C D n c m d ((HI.out.stay HB5.out).stay hW) a (HX.out.need a ha).1 (HX.out.need a ha).2).mono fun e w' h => ⟨h.1, below_more hW h.2⟩)).mono ?_; rintro e w3 ⟨rfl, hb6⟩; generalize hr2 : ((x.points ++ x.flank).any fun n => decide (I.lies.getD n.p.toNat 0 ≠ posM n)) = r2; have HR2 := Lib.hid hr2; have HB6 := Lib.hid (below_more HB5.out hb6); clear hb6 hr2)
      | fail)
    go_ret
    exact ⟨ret_bool (by unfold clearM; rw [HR1.out, HR2.out]; rfl), below_more (by rw [HGN.out]; exact HB0.out) HB6.out⟩
end Go.Proofs.YtmdggodkkkihhaaDoor
