/- Contract of table.Conflict. -/
import Derived.Test.YtmdggodkkkihhaaLyEn
import Derived.Deep.RegionHeld3
import Derived.Deep.DeepCutAuto
set_option linter.unusedVariables false
namespace Go.Proofs.Ytmdggodkkkihhaa
open Go.RowKit

theorem enter_cf1 (args : Array Value) (w : World) : (callFunc 33 args).run Try.prog w = .ok (.enter 33 args) w := by kernel_rfl
theorem enter_cf2 (args : Array Value) (w : World) : (callFunc 35 args).run Try.prog w = .ok (.enter 35 args) w := by kernel_rfl
set_option maxHeartbeats 2000000 in
theorem Cf1_calls (W : World) (g p pc : Nat) (P : Option Addr) (ys : List Int) (hc : W.cell? ⟨g, 3, none⟩ = some (.slice P p pc)) (hy : Sl flI W P p pc ys) (a : Int) :
    Calls Try.prog 33 #[.int .i64 a, .pointer (some ⟨g, 0, none⟩)] W fun e w' => e = .returned (.bool (ys.any fun z => decide (a = z))) ∧ Below W.heap.size W w' := by
  have K := Lib.hid (CTI_calls W P p pc ys hy a)
  clear hy
  go_enter Try.func33, Try.ntmps33
  go_wp2_with (refine K.out.mono ?_; rintro e w1 ⟨rfl, hb⟩)
  go_ret
  exact ⟨rfl, hb⟩
/-- A layout's box, and another's number's box. -/
theorem LayV.box {w : World} {L : Lay} {A1 A2 A3 A4 : Option Addr} {n1 c1 n2 c2 n3 c3 n4 c4 : Nat} (h : LayV w L A1 A2 A3 A4 n1 c1 n2 c2 n3 c3 n4 c4) : n4 = L.rtes.length := h.rtes.len.symm
set_option maxHeartbeats 4000000 in
theorem Cf2_calls (W : World) (L : Lay) (A1 A2 A3 A4 : Option Addr) (n1 c1 n2 c2 n3 c3 n4 c4 : Nat) (hL : LayV W L A1 A2 A3 A4 n1 c1 n2 c2 n3 c3 n4 c4) (s : Nat) (y : Rte) (hs : L.rtes[s]? = some y) (hy : y.points.length + y.flank.length ≤ 8796093022208)
    (g k : Nat) (b0 : W.cell? ⟨g, 0, none⟩ = some (.slice A1 n1 c1)) (b1 : W.cell? ⟨g, 1, none⟩ = some (.slice A2 n2 c2)) (b2 : W.cell? ⟨g, 2, none⟩ = some (.slice A3 n3 c3)) (b3 : W.cell? ⟨g, 3, none⟩ = some (.slice A4 n4 c4))
    (hk : W.cell? ⟨k, 0, none⟩ = some (.int .i64 s)) (x : Need) :
    Calls Try.prog 35 #[.agg #[.int .i64 x.p, .bool x.r], .pointer (some ⟨g, 0, none⟩), .pointer (some ⟨k, 0, none⟩)] W fun e w' => e = .returned (.bool ((y.points ++ y.flank).any fun m => decide ((⟨x.p, !x.r⟩ : Need) = m))) ∧ Below W.heap.size W w' := by
  have hw0 := below_new W (.cells #[.int .i64 x.p, .bool x.r] 54)
  have hB := Blk.new W #[.int .i64 x.p, .bool x.r] 54 (0, 0)
  have d0 := hB.cell 0
  have d1 := hB.cell 1
  simp only [List.getElem?_toArray, List.getElem?_cons_zero, List.getElem?_cons_succ] at d0 d1
  have b0 := cell_stay hw0 b0
  have b1 := cell_stay hw0 b1
  have b2 := cell_stay hw0 b2
  have b3 := cell_stay hw0 b3
  have hk := cell_stay hw0 hk
  have HL := Lib.hid (hL.stay hw0)
  have HS := Lib.hid hs
  clear hL hs hB
  go_enter Try.func35, Try.ntmps35
  go_wp2_with fail
  generalize hgk : W.heap.size = gn at *
  have HG := Lib.hid hgk
  generalize (W.alloc (.cells #[.int .i64 x.p, .bool x.r] 54)) = W0 at *
  clear hgk
  have hd : Below W0.heap.size W0 W0.drew := below_drawn (Below.refl _ _) 1
  go_region_held3 (fun w' => w'.cell? ⟨g, 0, none⟩ = some (.slice A1 n1 c1) ∧ w'.cell? ⟨g, 1, none⟩ = some (.slice A2 n2 c2) ∧ w'.cell? ⟨g, 2, none⟩ = some (.slice A3 n3 c3) ∧ w'.cell? ⟨g, 3, none⟩ = some (.slice A4 n4 c4) ∧
      w'.cell? ⟨k, 0, none⟩ = some (.int .i64 s) ∧ w'.cell? ⟨gn, 0, none⟩ = some (.int .i64 x.p) ∧ w'.cell? ⟨gn, 1, none⟩ = some (.bool x.r))
    (first | exact ⟨b0, b1, b2, b3, hk, d0, d1⟩ | exact ⟨cell_stay HQ.out.2 b0, cell_stay HQ.out.2 b1, cell_stay HQ.out.2 b2, cell_stay HQ.out.2 b3, cell_stay HQ.out.2 hk, cell_stay HQ.out.2 d0, cell_stay HQ.out.2 d1⟩ | exact ⟨cell_stay HT.out b0, cell_stay HT.out b1, cell_stay HT.out b2, cell_stay HT.out b3, cell_stay HT.out hk, cell_stay HT.out d0, cell_stay HT.out d1⟩)
    (first
      | (go_at_call 26; refine (Needs_calls W0.drew L A1 A2 A3 A4 n1 c1 n2 c2 n3 c3 n4 c4 (HL.out.stay hd) s y HS.out hy).mono ?_; rintro e w5 ⟨A5, n5, c5, rfl, hq5, hb5⟩; have HQ := Lib.hid (And.intro hq5 (below_more hd hb5)); clear hq5 hb5)
      | (go_at_call 36; refine (CTN_calls w5 A5 n5 c5 (y.points ++ y.flank) HQ.out.1 (⟨x.p, !x.r⟩ : Need)).mono ?_; rintro e w6 ⟨rfl, hb6⟩; have HT := Lib.hid (below_more HQ.out.2 hb6); clear hb6)
      | fail)
  go_wp2_with fail
  go_ret
  exact ⟨by rw [List.any_append]; rfl, below_more (by rw [HG.out]; exact hw0) HT.out⟩
/-- Does the one exclude the other? -/
def conflictM (r s : Nat) (x y : Rte) : Bool :=
  decide ((r : Int) = s) || decide (x.frm = y.frm) || x.path.any (fun a => y.path.any fun z => decide (a = z)) || (x.points ++ x.flank).any fun n => (y.points ++ y.flank).any fun m => decide ((⟨n.p, !n.r⟩ : Need) = m)
set_option maxHeartbeats 4000000 in
theorem Conflict_calls (w : World) (L : Lay) (A1 A2 A3 A4 : Option Addr) (n1 c1 n2 c2 n3 c3 n4 c4 : Nat) (hL : LayV w L A1 A2 A3 A4 n1 c1 n2 c2 n3 c3 n4 c4) (r s : Nat) (x y : Rte) (hr : L.rtes[r]? = some x) (hs : L.rtes[s]? = some y)
    (hx : x.points.length + x.flank.length ≤ 8796093022208) (hy : y.points.length + y.flank.length ≤ 8796093022208) :
    Calls Try.prog 23 #[.agg #[.slice A1 n1 c1, .slice A2 n2 c2, .slice A3 n3 c3, .slice A4 n4 c4], .int .i64 r, .int .i64 s] w fun e w' => e = .returned (.bool (conflictM r s x y)) ∧ Below w.heap.size w w' := by
  have hlr : r < n4 := by
    have := hL.rtes.len
    have := (List.getElem?_eq_some_iff.1 hr).1
    omega
  have hls : s < n4 := by
    have := hL.rtes.len
    have := (List.getElem?_eq_some_iff.1 hs).1
    omega
  have hcap := Nat.le_trans hL.rtes.le hL.rtes.cap
  obtain ⟨b, off, x', P, Q, F, p, pc, q, qc, f, fc, rfl, hx', k0, k1, k2, k3, k4, k5, hv⟩ := hL.rtes.at_ hlr
  obtain rfl : x = x' := by rw [hr] at hx'; exact Option.some.inj hx'
  obtain ⟨b2, off2, y', P2, Q2, F2, p2, pc2, q2, qc2, f2, fc2, e2, hy', m0, m1, m2, m3, m4, m5, hu⟩ := hL.rtes.at_ hls
  obtain rfl : y = y' := by rw [hs] at hy'; exact Option.some.inj hy'
  obtain ⟨rfl, rfl⟩ : b = b2 ∧ off = off2 := by simpa using e2
  have hw0 : Below w.heap.size w ((w.alloc (.cells #[.slice A1 n1 c1, .slice A2 n2 c2, .slice A3 n3 c3, .slice (some ⟨b, off, none⟩) n4 c4] 40)).alloc (.cells #[.int .i64 s] 3)) := (below_new w _).alloc (by simp) _
  have hB := (Blk.new w #[.slice A1 n1 c1, .slice A2 n2 c2, .slice A3 n3 c3, .slice (some ⟨b, off, none⟩) n4 c4] 40 (0, 0)).alloc (.cells #[.int .i64 s] 3)
  have hC := Blk.at_ (w := w.alloc (.cells #[.slice A1 n1 c1, .slice A2 n2 c2, .slice A3 n3 c3, .slice (some ⟨b, off, none⟩) n4 c4] 40)) (g := w.heap.size + 1) (by simp) #[.int .i64 s] 3 (0, 0)
  have l0 := hB.cell 0
  have l1 := hB.cell 1
  have l2 := hB.cell 2
  have l3 := hB.cell 3
  have s0 := hC.cell 0
  simp only [List.getElem?_toArray, List.getElem?_cons_zero, List.getElem?_cons_succ] at l0 l1 l2 l3 s0
  have k0 := cell_stay hw0 k0
  have k1 := cell_stay hw0 k1
  have k2 := cell_stay hw0 k2
  have k3 := cell_stay hw0 k3
  have k4 := cell_stay hw0 k4
  have k5 := cell_stay hw0 k5
  have m0 := cell_stay hw0 m0
  have m1 := cell_stay hw0 m1
  have m2 := cell_stay hw0 m2
  have m3 := cell_stay hw0 m3
  have m4 := cell_stay hw0 m4
  have m5 := cell_stay hw0 m5
  have HL := Lib.hid (hL.stay hw0)
  have HV := Lib.hid (hv.stay hw0)
  have HU := Lib.hid (hu.stay hw0)
  have HR := Lib.hid hr
  have HS := Lib.hid hs
  clear hL hr hs hx' hy' e2 hv hu
  go_enter Try.func23, Try.ntmps23
  go_upto_region 1 with fail
  have HG := Lib.hid (show w.heap.size = w.heap.size from rfl)
  have hsz : ((w.alloc (.cells #[.slice A1 n1 c1, .slice A2 n2 c2, .slice A3 n3 c3, .slice (some ⟨b, off, none⟩) n4 c4] 40)).alloc (.cells #[.int .i64 s] 3)).heap.size = w.heap.size + 2 := by simp
  generalize hW0 : ((w.alloc (.cells #[.slice A1 n1 c1, .slice A2 n2 c2, .slice A3 n3 c3, .slice (some ⟨b, off, none⟩) n4 c4] 40)).alloc (.cells #[.int .i64 s] 3)) = W0 at *
  clear hW0
  have HB0 := Lib.hid hw0
  generalize hgn : w.heap.size = gn at *
  clear hw0 hB hC
  go_cut [7, 8] (fun s7 s8 wx => ∃ g7 g8 : Nat, s7 = .pointer (some ⟨g7, 0, none⟩) ∧ s8 = .pointer (some ⟨g8, 0, none⟩) ∧ Below W0.heap.size W0 wx ∧
    Blk wx g7 #[.string x.name, .int .i64 x.frm, .int .i64 x.to, .slice P p pc, .slice Q q qc, .slice F f fc] 47 (0, 0) ∧ Blk wx g8 #[.string y.name, .int .i64 y.frm, .int .i64 y.to, .slice P2 p2 pc2, .slice Q2 q2 qc2, .slice F2 f2 fc2] 47 (0, 0))
  case first =>
    have KEEP := Lib.hid (fun (w' : World) (hb : Below W0.heap.size W0 w') => (⟨cell_stay hb l3, cell_stay hb s0, cell_stay hb k0, cell_stay hb k1, cell_stay hb k2, cell_stay hb k3, cell_stay hb k4, cell_stay hb k5, cell_stay hb m0, cell_stay hb m1, cell_stay hb m2, cell_stay hb m3, cell_stay hb m4, cell_stay hb m5⟩ : 
      w'.cell? ⟨gn, 3, none⟩ = some (.slice (some ⟨b, off, none⟩) n4 c4) ∧ w'.cell? ⟨gn + 1, 0, none⟩ = some (.int .i64 s) ∧
      w'.cell? ⟨b, off + r * 6, none⟩ = some (.string x.name) ∧ w'.cell? ⟨b, off + r * 6 + 1, none⟩ = some (.int .i64 x.frm) ∧ w'.cell? ⟨b, off + r * 6 + 2, none⟩ = some (.int .i64 x.to) ∧ w'.cell? ⟨b, off + r * 6 + 3, none⟩ = some (.slice P p pc) ∧ w'.cell? ⟨b, off + r * 6 + 4, none⟩ = some (.slice Q q qc) ∧ w'.cell? ⟨b, off + r * 6 + 5, none⟩ = some (.slice F f fc) ∧
      w'.cell? ⟨b, off + s * 6, none⟩ = some (.string y.name) ∧ w'.cell? ⟨b, off + s * 6 + 1, none⟩ = some (.int .i64 y.frm) ∧ w'.cell? ⟨b, off + s * 6 + 2, none⟩ = some (.int .i64 y.to) ∧ w'.cell? ⟨b, off + s * 6 + 3, none⟩ = some (.slice P2 p2 pc2) ∧ w'.cell? ⟨b, off + s * 6 + 4, none⟩ = some (.slice Q2 q2 qc2) ∧ w'.cell? ⟨b, off + s * 6 + 5, none⟩ = some (.slice F2 f2 fc2)))
    clear l0 l1 l2
    go_region_held3 (fun w' => w'.cell? ⟨gn, 3, none⟩ = some (.slice (some ⟨b, off, none⟩) n4 c4) ∧ w'.cell? ⟨gn + 1, 0, none⟩ = some (.int .i64 s) ∧
      w'.cell? ⟨b, off + r * 6, none⟩ = some (.string x.name) ∧ w'.cell? ⟨b, off + r * 6 + 1, none⟩ = some (.int .i64 x.frm) ∧ w'.cell? ⟨b, off + r * 6 + 2, none⟩ = some (.int .i64 x.to) ∧ w'.cell? ⟨b, off + r * 6 + 3, none⟩ = some (.slice P p pc) ∧ w'.cell? ⟨b, off + r * 6 + 4, none⟩ = some (.slice Q q qc) ∧ w'.cell? ⟨b, off + r * 6 + 5, none⟩ = some (.slice F f fc) ∧
      w'.cell? ⟨b, off + s * 6, none⟩ = some (.string y.name) ∧ w'.cell? ⟨b, off + s * 6 + 1, none⟩ = some (.int .i64 y.frm) ∧ w'.cell? ⟨b, off + s * 6 + 2, none⟩ = some (.int .i64 y.to) ∧ w'.cell? ⟨b, off + s * 6 + 3, none⟩ = some (.slice P2 p2 pc2) ∧ w'.cell? ⟨b, off + s * 6 + 4, none⟩ = some (.slice Q2 q2 qc2) ∧ w'.cell? ⟨b, off + s * 6 + 5, none⟩ = some (.slice F2 f2 fc2))
      ((refine KEEP.out _ ?_; repeat (first | exact Below.refl _ _ | refine Below.alloc ?_ (by first | (simp; omega) | simp | omega) _ | refine Below.setCell ?_ (by first | (simp; omega) | simp | omega) _ | refine Below.drew ?_)))
      (first | fail | fail)
    all_goals (go_wp2_with fail; go_meet)
    · exact ⟨gn + 2, gn + 2 + 1, rfl, rfl, by (repeat (first | exact Below.refl _ _ | refine Below.alloc ?_ (by first | (simp; omega) | simp | omega) _ | refine Below.drew ?_)), (Blk.at_ hsz.symm _ _ _).alloc _, Blk.at_ (by simp; omega) _ _ _⟩
    · exact ⟨gn + 2 + 1, gn + 2, rfl, rfl, by (repeat (first | exact Below.refl _ _ | refine Below.alloc ?_ (by first | (simp; omega) | simp | omega) _ | refine Below.drew ?_)), Blk.at_ (by simp; omega) _ _ _, (Blk.at_ hsz.symm _ _ _).alloc _⟩
  case rest =>
    obtain ⟨g7, g8, rfl, rfl, hbx, hb7, hb8⟩ := hcut
    have c71 := hb7.cell 1
    have c73 := hb7.cell 3
    have c81 := hb8.cell 1
    have c83 := hb8.cell 3
    simp only [List.getElem?_toArray, List.getElem?_cons_zero, List.getElem?_cons_succ] at c71 c73 c81 c83
    have HBX := Lib.hid hbx
    have K2 := Lib.hid (CFI_calls _ P p pc x.path (HV.out.stay hbx).path 33 #[.pointer (some ⟨g8, 0, none⟩)] enter_cf1 (fun a => y.path.any fun z => decide (a = z))
      (fun W a _ hW => (Cf1_calls W g8 p2 pc2 P2 y.path (cell_stay hW c83) ((HU.out.stay hbx).path.stay hW) a).mono fun e w' h => ⟨h.1, below_more hW h.2⟩))
    have L0 := cell_stay hbx l0
    have L1 := cell_stay hbx l1
    have L2 := cell_stay hbx l2
    have L3 := cell_stay hbx l3
    have S0 := cell_stay hbx s0
    clear l0 l1 l2 l3 s0 k0 k1 k2 k3 k4 k5 m0 m1 m2 m3 m4 m5 hb7 hb8 hbx
    generalize hr1 : (x.path.any fun a => y.path.any fun z => decide (a = z)) = r1 at *
    have HR1 := Lib.hid hr1
    clear hr1
    go_wp2_with (first
      | (go_at_call 19; refine K2.out.mono ?_; rintro e w1 ⟨rfl, hb1⟩; have d71 := cell_stay hb1 c71; have d81 := cell_stay hb1 c81; have L0 := cell_stay hb1 L0; have L1 := cell_stay hb1 L1; have L2 := cell_stay hb1 L2; have L3 := cell_stay hb1 L3; have S0 := cell_stay hb1 S0; have HB1 := Lib.hid (below_more HBX.out hb1); clear hb1 c71 c81)
      | (go_at_call 26; refine (Needs_calls w1 L A1 A2 A3 _ n1 c1 n2 c2 n3 c3 n4 c4 (HL.out.stay HB1.out) r x HR.out hx).mono ?_; rintro e w2 ⟨A5, n5, c5, rfl, hq5, hb5⟩; have e71 := cell_stay hb5 d71; have e81 := cell_stay hb5 d81; have L0 := cell_stay hb5 L0; have L1 := cell_stay hb5 L1; have L2 := cell_stay hb5 L2; have L3 := cell_stay hb5 L3; have S0 := cell_stay hb5 S0; have HB5 := Lib.hid (below_more HB1.out hb5); have HQ5 := Lib.hid hq5; clear hb5 hq5 d71 d81)
      | (go_at_call 27; refine (CFN_calls w2 A5 n5 c5 (x.points ++ x.flank) HQ5.out 35 #[.pointer (some ⟨gn, 0, none⟩), .pointer (some ⟨gn + 1, 0, none⟩)] enter_cf2 (fun n => (y.points ++ y.flank).any fun m => decide ((⟨n.p, !n.r⟩ : Need) = m)) (fun W a _ hW => (Cf2_calls W L A1 A2 A3 _ n1 c1 n2 c2 n3 c3 n4 c4 ((HL.out.stay HB5.out).stay hW) s y HS.out hy gn (gn + 1) (cell_stay hW L0) (cell_stay hW L1) (cell_stay hW L2) (cell_stay hW L3) (cell_stay hW S0) a).mono fun e w' h => ⟨h.1, below_more hW h.2⟩)).mono ?_; rintro e w3 ⟨rfl, hb6⟩; generalize hr2 : ((x.points ++ x.flank).any fun n => (y.points ++ y.flank).any fun m => decide ((⟨n.p, !n.r⟩ : Need) = m)) = r2; have HR2 := Lib.hid hr2; have e71 := cell_stay hb6 e71; have e81 := cell_stay hb6 e81; have S0 := cell_stay hb6 S0; have HB6 := Lib.hid (below_more HB5.out hb6); clear hb6 hr2 L0 L1 L2 L3)
      | fail)
    all_goals go_ret
    all_goals refine ⟨ret_bool ?_, below_more (by rw [hgn]; exact HB0.out) HB6.out⟩
    all_goals (unfold conflictM; rw [HR1.out, HR2.out]; simp [*])
end Go.Proofs.Ytmdggodkkkihhaa
