/- Contracts of judge.position and judge.isClear. -/
import Derived.Test.YtmdggodkkkihhaaLyCf
set_option linter.unusedVariables false
namespace Go.Proofs.Ytmdggodkkkihhaa
open Go.RowKit

/-- How a point must lie. -/
def posM (x : Need) : Int := if x.r then 2 else 1
theorem Pos_calls (W : World) (x : Need) : Calls Try.prog 29 #[.agg #[.int .i64 x.p, .bool x.r]] W fun e w' => e = .returned (.int .i64 (posM x)) ∧ Below W.heap.size W w' := by
  have hw0 := below_new W (.cells #[.int .i64 x.p, .bool x.r] 54)
  obtain ⟨p, r⟩ := x
  unfold posM
  cases r with
  | true =>
    go_enter Try.func29, Try.ntmps29
    go_wp2_with fail
    go_ret
    exact ⟨rfl, hw0⟩
  | false =>
    go_enter Try.func29, Try.ntmps29
    go_wp2_with fail
    go_ret
    exact ⟨rfl, hw0⟩
/-- A box with what the field tells. -/
structure InB (w : World) (g : Nat) (I : Inn) (A B : Option Addr) (n c m d : Nat) : Prop where
  c0 : w.cell? ⟨g, 0, none⟩ = some (.slice A n c)
  c1 : w.cell? ⟨g, 1, none⟩ = some (.slice B m d)
  v : InV w I A B n c m d
theorem InB.stay {w w1 : World} {g : Nat} {I : Inn} {A B : Option Addr} {n c m d : Nat} (h : InB w g I A B n c m d) (hb : Below w.heap.size w w1) : InB w1 g I A B n c m d := ⟨cell_stay hb h.c0, cell_stay hb h.c1, h.v.stay hb⟩
theorem enter_ic1 (args : Array Value) (w : World) : (callFunc 37 args).run Try.prog w = .ok (.enter 37 args) w := by kernel_rfl
theorem enter_ic2 (args : Array Value) (w : World) : (callFunc 38 args).run Try.prog w = .ok (.enter 38 args) w := by kernel_rfl
theorem getD_of {α : Type} {xs : List α} {j : Nat} {x d : α} (h : xs[j]? = some x) : xs.getD j d = x := by
  rw [List.getD_eq_getElem?_getD, h]; rfl
set_option maxHeartbeats 2000000 in
theorem Ic1_calls (W : World) (g : Nat) (I : Inn) (A B : Option Addr) (n c m d : Nat) (h : InB W g I A B n c m d) (a : Int) (h0 : 0 ≤ a) (h1 : a < I.occ.length) :
    Calls Try.prog 37 #[.int .i64 a, .pointer (some ⟨g, 0, none⟩)] W fun e w' => e = .returned (.bool (I.occ.getD a.toNat false)) ∧ Below W.heap.size W w' := by
  obtain ⟨k, rfl⟩ : ∃ k : Nat, a = k := ⟨a.toNat, by omega⟩
  have hk : k < n := by have := h.v.occ.len; omega
  have hcap := Nat.le_trans h.v.occ.le h.v.occ.cap
  obtain ⟨b, off, x, rfl, hx, cx⟩ := h.v.occ.tru hk
  have HF := Lib.hid (getD_of (d := false) hx)
  have c0 := h.c0
  clear h hx h0 h1
  go_enter Try.func37, Try.ntmps37
  go_wp2_with fail
  go_ret
  exact ⟨ret_bool (by rw [Int.toNat_natCast, HF.out]), Below.refl _ _⟩
set_option maxHeartbeats 4000000 in
theorem Ic2_calls (W : World) (g : Nat) (I : Inn) (A B : Option Addr) (n c m d : Nat) (h : InB W g I A B n c m d) (x : Need) (h0 : 0 ≤ x.p) (h1 : x.p < I.lies.length) :
    Calls Try.prog 38 #[.agg #[.int .i64 x.p, .bool x.r], .pointer (some ⟨g, 0, none⟩)] W fun e w' => e = .returned (.bool (decide (I.lies.getD x.p.toNat 0 ≠ posM x))) ∧ Below W.heap.size W w' := by
  obtain ⟨p, r⟩ := x
  simp only at h0 h1 ⊢
  obtain ⟨k, rfl⟩ : ∃ k : Nat, p = k := ⟨p.toNat, by omega⟩
  have hk : k < m := by have := h.v.lies.len; omega
  have hcap := Nat.le_trans h.v.lies.le h.v.lies.cap
  obtain ⟨b, off, y, rfl, hy, cy⟩ := h.v.lies.int hk
  have HF := Lib.hid (getD_of (d := 0) hy)
  have c1 := h.c1
  have hw0 := below_new W (.cells #[.int .i64 (k : Int), .bool r] 54)
  have hB := Blk.new W #[.int .i64 (k : Int), .bool r] 54 (0, 0)
  have d0 := hB.cell 0
  have d1 := hB.cell 1
  simp only [List.getElem?_toArray, List.getElem?_cons_zero, List.getElem?_cons_succ] at d0 d1
  have c1 := cell_stay hw0 c1
  have cy := cell_stay hw0 cy
  clear h hy h0 h1 hB
  go_enter Try.func38, Try.ntmps38
  go_wp2_with fail
  have HW := Lib.hid hw0
  have HG := Lib.hid (show W.heap.size = W.heap.size from rfl)
  generalize hgn : W.heap.size = gn at *
  have HGN := Lib.hid hgn
  clear hgn hw0
  generalize (W.alloc (.cells #[.int .i64 (k : Int), .bool r] 54)) = W0 at *
  have KP := fun W1 => Pos_calls W1 ⟨(k : Int), r⟩
  generalize hz : posM ⟨(k : Int), r⟩ = z at KP
  have HZ := Lib.hid hz
  clear hz
  have hd : Below W0.heap.size W0 W0.drew := below_drawn (Below.refl _ _) 1
  go_region_held3 (fun w' => w'.cell? ⟨g, 1, none⟩ = some (.slice (some ⟨b, off, none⟩) m d) ∧ w'.cell? ⟨b, off + k, none⟩ = some (.int .i64 y) ∧ w'.cell? ⟨gn, 0, none⟩ = some (.int .i64 (k : Int)) ∧ w'.cell? ⟨gn, 1, none⟩ = some (.bool r))
    (first | exact ⟨c1, cy, d0, d1⟩ | exact ⟨cell_stay HQ.out c1, cell_stay HQ.out cy, cell_stay HQ.out d0, cell_stay HQ.out d1⟩)
    (first
      | (go_at_call 29; refine (KP _).mono ?_; rintro e w5 ⟨rfl, hb5⟩; have HQ := Lib.hid (below_more hd hb5); clear hb5)
      | fail)
  go_wp2_with fail
  go_ret
  refine ⟨ret_bool (by rw [Int.toNat_natCast, HF.out, HZ.out]; simp [bne, BEq.beq]), below_more (by rw [HGN.out]; exact HW.out) HQ.out⟩
/-- A box with a layout. -/
structure LayB (w : World) (g : Nat) (L : Lay) (A1 A2 A3 A4 : Option Addr) (n1 c1 n2 c2 n3 c3 n4 c4 : Nat) : Prop where
  b0 : w.cell? ⟨g, 0, none⟩ = some (.slice A1 n1 c1)
  b1 : w.cell? ⟨g, 1, none⟩ = some (.slice A2 n2 c2)
  b2 : w.cell? ⟨g, 2, none⟩ = some (.slice A3 n3 c3)
  b3 : w.cell? ⟨g, 3, none⟩ = some (.slice A4 n4 c4)
  v : LayV w L A1 A2 A3 A4 n1 c1 n2 c2 n3 c3 n4 c4
theorem LayB.stay {w w1 : World} {g : Nat} {L : Lay} {A1 A2 A3 A4 : Option Addr} {n1 c1 n2 c2 n3 c3 n4 c4 : Nat} (h : LayB w g L A1 A2 A3 A4 n1 c1 n2 c2 n3 c3 n4 c4) (hb : Below w.heap.size w w1) : LayB w1 g L A1 A2 A3 A4 n1 c1 n2 c2 n3 c3 n4 c4 := ⟨cell_stay hb h.b0, cell_stay hb h.b1, cell_stay hb h.b2, cell_stay hb h.b3, h.v.stay hb⟩
/-- A route's numbers are there. -/
structure RteOk (I : Inn) (x : Rte) : Prop where
  path : ∀ a ∈ x.path, 0 ≤ a ∧ a < I.occ.length
  need : ∀ a ∈ x.points ++ x.flank, 0 ≤ a.p ∧ a.p < I.lies.length
  few : x.points.length + x.flank.length ≤ 8796093022208
/-- Is a route clear, and does all that it needs lie so? -/
def clearM (I : Inn) (x : Rte) : Bool := !(x.path.any fun a => I.occ.getD a.toNat false) && !((x.points ++ x.flank).any fun n => decide (I.lies.getD n.p.toNat 0 ≠ posM n))
set_option maxHeartbeats 4000000 in
theorem IsClear_calls (w : World) (L : Lay) (A1 A2 A3 A4 : Option Addr) (n1 c1 n2 c2 n3 c3 n4 c4 : Nat) (hL : LayV w L A1 A2 A3 A4 n1 c1 n2 c2 n3 c3 n4 c4) (I : Inn) (C D : Option Addr) (n c m d : Nat) (hI : InV w I C D n c m d) (r : Nat) (x : Rte) (hr : L.rtes[r]? = some x) (hx : RteOk I x) :
    Calls Try.prog 24 #[.agg #[.slice A1 n1 c1, .slice A2 n2 c2, .slice A3 n3 c3, .slice A4 n4 c4], .agg #[.slice C n c, .slice D m d], .int .i64 r] w fun e w' => e = .returned (.bool (clearM I x)) ∧ Below w.heap.size w w' := by
  have hlr : r < n4 := by
    have := hL.rtes.len
    have := (List.getElem?_eq_some_iff.1 hr).1
    omega
  have hcap := Nat.le_trans hL.rtes.le hL.rtes.cap
  obtain ⟨b, off, x', P, Q, F, p, pc, q, qc, f, fc, rfl, hx', k0, k1, k2, k3, k4, k5, hv⟩ := hL.rtes.at_ hlr
  obtain rfl : x = x' := by rw [hr] at hx'; exact Option.some.inj hx'
  have hw0 : Below w.heap.size w ((w.alloc (.cells #[.slice A1 n1 c1, .slice A2 n2 c2, .slice A3 n3 c3, .slice (some ⟨b, off, none⟩) n4 c4] 40)).alloc (.cells #[.slice C n c, .slice D m d] 28)) := (below_new w _).alloc (by simp) _
  have hB := (Blk.new w #[.slice A1 n1 c1, .slice A2 n2 c2, .slice A3 n3 c3, .slice (some ⟨b, off, none⟩) n4 c4] 40 (0, 0)).alloc (.cells #[.slice C n c, .slice D m d] 28)
  have hC := Blk.at_ (w := w.alloc (.cells #[.slice A1 n1 c1, .slice A2 n2 c2, .slice A3 n3 c3, .slice (some ⟨b, off, none⟩) n4 c4] 40)) (g := w.heap.size + 1) (by simp) #[.slice C n c, .slice D m d] 28 (0, 0)
  have l0 := hB.cell 0
  have l1 := hB.cell 1
  have l2 := hB.cell 2
  have l3 := hB.cell 3
  have s0 := hC.cell 0
  have s1 := hC.cell 1
  simp only [List.getElem?_toArray, List.getElem?_cons_zero, List.getElem?_cons_succ] at l0 l1 l2 l3 s0 s1
  have k3 := cell_stay hw0 k3
  have HI := Lib.hid (InB.mk s0 s1 (hI.stay hw0))
  have HL := Lib.hid (hL.stay hw0)
  have HV := Lib.hid (hv.stay hw0)
  have HR := Lib.hid hr
  have HX := Lib.hid hx
  clear hL hI hr hx' hv hx k0 k1 k2 k4 k5 hB hC
  go_enter Try.func24, Try.ntmps24
  go_upto_region 3 with fail
  generalize hW0 : ((w.alloc (.cells #[.slice A1 n1 c1, .slice A2 n2 c2, .slice A3 n3 c3, .slice (some ⟨b, off, none⟩) n4 c4] 40)).alloc (.cells #[.slice C n c, .slice D m d] 28)) = W0 at *
  clear hW0
  have HB0 := Lib.hid hw0
  generalize hgn : w.heap.size = gn at *
  have HGN := Lib.hid hgn
  clear hw0 hgn
  have K2 := Lib.hid (CFI_calls W0 P p pc x.path HV.out.path 37 #[.pointer (some ⟨gn + 1, 0, none⟩)] enter_ic1 (fun a => I.occ.getD a.toNat false)
      (fun W a ha hW => (Ic1_calls W (gn + 1) I C D n c m d (HI.out.stay hW) a (HX.out.path a ha).1 (HX.out.path a ha).2).mono fun e w' h => ⟨h.1, below_more hW h.2⟩))
  generalize hr1 : (x.path.any fun a => I.occ.getD a.toNat false) = r1 at *
  have HR1 := Lib.hid hr1
  clear hr1
  cases r1 with
  | true =>
    go_wp2_with (first
      | (go_at_call 19; refine K2.out.mono ?_; rintro e w1 ⟨rfl, hb1⟩)
      | fail)
    go_ret
    exact ⟨ret_bool (by unfold clearM; rw [HR1.out]; rfl), below_more (by rw [HGN.out]; exact HB0.out) hb1⟩
  | false =>
    go_wp2_with (first
      | (go_at_call 19; refine K2.out.mono ?_; rintro e w1 ⟨rfl, hb1⟩; have l0 := cell_stay hb1 l0; have l1 := cell_stay hb1 l1; have l2 := cell_stay hb1 l2; have l3 := cell_stay hb1 l3; have HB1 := Lib.hid hb1; clear hb1)
      | (go_at_call 26; refine (Needs_calls w1 L A1 A2 A3 _ n1 c1 n2 c2 n3 c3 n4 c4 (HL.out.stay HB1.out) r x HR.out HX.out.few).mono ?_; rintro e w2 ⟨A5, n5, c5, rfl, hq5, hb5⟩; have HB5 := Lib.hid (below_more HB1.out hb5); have HQ5 := Lib.hid hq5; clear hb5 hq5)
      | (go_at_call 27; refine (CFN_calls w2 A5 n5 c5 (x.points ++ x.flank) HQ5.out 38 #[.pointer (some ⟨gn + 1, 0, none⟩)] enter_ic2 (fun n => decide (I.lies.getD n.p.toNat 0 ≠ posM n)) (fun W a ha hW => (Ic2_calls W (gn + 1) I C D n c m d ((HI.out.stay HB5.out).stay hW) a (HX.out.need a ha).1 (HX.out.need a ha).2).mono fun e w' h => ⟨h.1, below_more hW h.2⟩)).mono ?_; rintro e w3 ⟨rfl, hb6⟩; generalize hr2 : ((x.points ++ x.flank).any fun n => decide (I.lies.getD n.p.toNat 0 ≠ posM n)) = r2; have HR2 := Lib.hid hr2; have HB6 := Lib.hid (below_more HB5.out hb6); clear hb6 hr2)
      | fail)
    go_ret
    exact ⟨ret_bool (by unfold clearM; rw [HR1.out, HR2.out]; rfl), below_more (by rw [HGN.out]; exact HB0.out) HB6.out⟩
end Go.Proofs.Ytmdggodkkkihhaa
