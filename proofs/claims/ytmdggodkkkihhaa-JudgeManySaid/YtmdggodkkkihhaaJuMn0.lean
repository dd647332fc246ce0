/- Walk of JudgeMany. (Written by gen_many.py.) -/
import Derived.Test.YtmdggodkkkihhaaJuMa
import Derived.Deep.DeepCutAuto
set_option linter.unusedVariables false
namespace Go.Proofs.Ytmdggodkkkihhaa
open Go.RowKit

set_option maxRecDepth 4000 in
set_option maxHeartbeats 8000000 in
theorem judgeMany_in0 (s p d g r : Nat) (hs : s ≤ 4) (hp : p ≤ 3) (hd : d ≤ 3) (hg : g ≤ 4) (hr : r ≤ 3) (hok : okM s p d g = true) (h3 : ((d : Int) == 1) = true) (h4 : ((g : Int) == 2) = true) (h5 : ((r : Int) == 1) = true) (w : World) : Calls Try.prog 5 #[.int .i64 s, .int .i64 p, .int .i64 d, .int .i64 g, .int .i64 r] w fun e w' => e = .returned (.bool true) ∧ Below w.heap.size w w' := by
  have H1 := Lib.hid (many_of hs hp hd hg hr)
  have HX := Lib.hid (And.intro hok (And.intro h3 (And.intro h4 h5)))
  clear hok h3 h4 h5
  have hk1 := fun w => mk_zb hs w
  have hk2 := fun w => mk_zi (n := p) (by omega) w
  have hk3 := fun w => mk_zi (n := d) (by omega) w
  have hk4 := fun w => mk_zb hg w
  have hk5 := fun w => mk_zr (n := r) (by omega) w
  have i0 : (0 : Int) ≤ (s : Int) := by omega
  have i1 : (s : Int) ≤ 4 := by omega
  have i2 : (0 : Int) ≤ (p : Int) := by omega
  have i3 : (p : Int) ≤ 3 := by omega
  have i4 : (0 : Int) ≤ (d : Int) := by omega
  have i5 : (d : Int) ≤ 3 := by omega
  have i6 : (0 : Int) ≤ (g : Int) := by omega
  have i7 : (g : Int) ≤ 4 := by omega
  have i8 : (0 : Int) ≤ (r : Int) := by omega
  have i9 : (r : Int) ≤ 3 := by omega
  have HBD := Lib.hid (And.intro hs (And.intro hp (And.intro hd (And.intro hg hr))))
  clear hs hp hd hg hr
  go_enter Try.func5, Try.ntmps5
  go_upto_region 3 with fail
  go_cut [11] (fun s11 wx => InP wx s p s11 ∧ Below w.heap.size w wx)
  case first =>
    go_region_with fail
    all_goals (go_wp2_with fail; go_meet)
    all_goals (refine ⟨?_, by refine Below.drew ?_; repeat (first | exact Below.refl _ _ | refine Below.alloc ?_ (by simp; try omega) _)⟩)
    all_goals (first
      | exact InP.mk HBD.out.1 (by have := HBD.out; omega) (((Blk.at_ (by simp) _ _ _).alloc _).alloc _).drew ((Blk.at_ (by simp) _ _ _).alloc _).drew (Blk.at_ (by simp) _ _ _).drew
      | exact InP.mk HBD.out.1 (by have := HBD.out; omega) (((Blk.at_ (by simp) _ _ _).alloc _).alloc _).drew (Blk.at_ (by simp) _ _ _).drew ((Blk.at_ (by simp) _ _ _).alloc _).drew
      | exact InP.mk HBD.out.1 (by have := HBD.out; omega) ((Blk.at_ (by simp) _ _ _).alloc _).drew (((Blk.at_ (by simp) _ _ _).alloc _).alloc _).drew (Blk.at_ (by simp) _ _ _).drew
      | exact InP.mk HBD.out.1 (by have := HBD.out; omega) ((Blk.at_ (by simp) _ _ _).alloc _).drew (Blk.at_ (by simp) _ _ _).drew (((Blk.at_ (by simp) _ _ _).alloc _).alloc _).drew
      | exact InP.mk HBD.out.1 (by have := HBD.out; omega) (Blk.at_ (by simp) _ _ _).drew (((Blk.at_ (by simp) _ _ _).alloc _).alloc _).drew ((Blk.at_ (by simp) _ _ _).alloc _).drew
      | exact InP.mk HBD.out.1 (by have := HBD.out; omega) (Blk.at_ (by simp) _ _ _).drew ((Blk.at_ (by simp) _ _ _).alloc _).drew (((Blk.at_ (by simp) _ _ _).alloc _).alloc _).drew)
  case rest =>
    obtain ⟨⟨g1, A1, B1, rfl, p0, p1, hI⟩, hb⟩ := hcut
    have HB := Lib.hid hb
    have HI := Lib.hid hI
    clear hb hI
    go_upto_region 4 with fail
    generalize hgn : wc.heap.size = gn at *
    go_cut [12] (fun s12 wx => OuP wx d g s12 ∧ Below wc.heap.size wc wx)
    case first =>
      subst hgn
      go_region_with fail
      all_goals (go_wp2_with fail; go_meet)
      all_goals (refine ⟨?_, by refine Below.drew ?_; repeat (first | exact Below.refl _ _ | refine Below.alloc ?_ (by simp; try omega) _)⟩)
      all_goals (first
        | exact OuP.mk (by have := HBD.out; omega) HBD.out.2.2.2.1 (((Blk.at_ (by simp) _ _ _).alloc _).alloc _).drew ((Blk.at_ (by simp) _ _ _).alloc _).drew (Blk.at_ (by simp) _ _ _).drew
        | exact OuP.mk (by have := HBD.out; omega) HBD.out.2.2.2.1 (((Blk.at_ (by simp) _ _ _).alloc _).alloc _).drew (Blk.at_ (by simp) _ _ _).drew ((Blk.at_ (by simp) _ _ _).alloc _).drew
        | exact OuP.mk (by have := HBD.out; omega) HBD.out.2.2.2.1 ((Blk.at_ (by simp) _ _ _).alloc _).drew (((Blk.at_ (by simp) _ _ _).alloc _).alloc _).drew (Blk.at_ (by simp) _ _ _).drew
        | exact OuP.mk (by have := HBD.out; omega) HBD.out.2.2.2.1 ((Blk.at_ (by simp) _ _ _).alloc _).drew (Blk.at_ (by simp) _ _ _).drew (((Blk.at_ (by simp) _ _ _).alloc _).alloc _).drew
        | exact OuP.mk (by have := HBD.out; omega) HBD.out.2.2.2.1 (Blk.at_ (by simp) _ _ _).drew (((Blk.at_ (by simp) _ _ _).alloc _).alloc _).drew ((Blk.at_ (by simp) _ _ _).alloc _).drew
        | exact OuP.mk (by have := HBD.out; omega) HBD.out.2.2.2.1 (Blk.at_ (by simp) _ _ _).drew ((Blk.at_ (by simp) _ _ _).alloc _).drew (((Blk.at_ (by simp) _ _ _).alloc _).alloc _).drew)
    case rest =>
      obtain ⟨⟨g2, A2, B2, rfl, q0, q1, hO⟩, hb2⟩ := hcut
      have HI := Lib.hid (HI.out.stay hb2)
      have p0 := cell_stay hb2 p0
      have p1 := cell_stay hb2 p1
      have HO := Lib.hid hO
      have HB := Lib.hid (below_more HB.out hb2)
      clear hb2 hO
      clear hk1 hk2 hk3 hk4
      have hk6 := mk_int1
      have hk7 := mk_bool2
      have S1 := Lib.hid (H1.out.1.trans HX.out.1)
      have S2 : Hid (heldM oneL (mIn s p) (mOu d g) (List.replicate r ⟨0, 0, 0, false⟩) = (true && true)) := Lib.hid (by rw [H1.out.2.1, HX.out.1, HX.out.2.2.2])
      have S3 : Hid (atmostM (mOu d g) (mOu 1 2) = (true && true)) := Lib.hid (by rw [H1.out.2.2, HX.out.2.1, HX.out.2.2.1])
      have HOK := Lib.hid HX.out.1
      unfold okM at HOK
      have HX3 := Lib.hid HX.out.2.1
      have HX4 := Lib.hid HX.out.2.2.1
      have HX5 := Lib.hid HX.out.2.2.2
      generalize hx1 : ((s : Int) == 2) = x1 at *
      generalize hx2 : ((p : Int) == 1) = x2 at *
      generalize hx3 : ((d : Int) == 1) = x3 at *
      generalize hx4 : ((g : Int) == 2) = x4 at *
      generalize hx5 : ((r : Int) == 1) = x5 at *
      obtain rfl : x3 = true := HX3.out
      obtain rfl : x4 = true := HX4.out
      obtain rfl : x5 = true := HX5.out
      clear H1 HX HX3 HX4 HX5
      generalize hwp : wc = w0 at *
      clear hwp i0 i1 i2 i3 i4 i5 i6 i7 i8 i9
      have HBD := Lib.hid (show r ≤ 4 by have := HBD.out; omega)
      go_upto_region 5 with fail
      go_cut [13] (fun s13 wx => s13 = .bool true ∧ wx = w0)
      case first =>
        cases x1 <;> cases x2
        all_goals first
          | exact absurd HOK.out (by decide)
          | (go_wp2_with fail; go_meet; exact ⟨rfl, rfl⟩)
      case rest =>
      obtain ⟨rfl, hwx⟩ := hcut
      obtain rfl : w0 = wc := hwx.symm
      clear hwx
      have KEEP := Lib.hid (fun (w1 : World) (hb : Below w0.heap.size w0 w1) => (⟨cell_stay hb p0, cell_stay hb p1, cell_stay hb q0, cell_stay hb q1⟩ :
        w1.cell? ⟨g1, 0, none⟩ = some (.slice A1 s s) ∧ w1.cell? ⟨g1, 1, none⟩ = some (.slice B1 p p) ∧ w1.cell? ⟨g2, 0, none⟩ = some (.slice A2 d d) ∧ w1.cell? ⟨g2, 1, none⟩ = some (.slice B2 g g)))
      have HD := Lib.hid (below_drawn (Below.refl w0.heap.size w0) 1)
      go_upto_region 6 with fail
      first | (go_region_held3 (fun w1 => w1.cell? ⟨g1, 0, none⟩ = some (.slice A1 s s) ∧ w1.cell? ⟨g1, 1, none⟩ = some (.slice B1 p p) ∧ w1.cell? ⟨g2, 0, none⟩ = some (.slice A2 d d) ∧ w1.cell? ⟨g2, 1, none⟩ = some (.slice B2 g g))
        (first | exact KEEP.out _ HD.out | exact KEEP.out _ HBA.out | exact KEEP.out _ HB9.out | exact KEEP.out _ (HB7.out.alloc HB7.out.size _) | exact KEEP.out _ ((HB7.out.alloc HB7.out.size _).alloc (HB7.out.alloc HB7.out.size _).size _) | exact KEEP.out _ HB7.out | exact KEEP.out _ (HB6.out.alloc HB6.out.size _) | exact KEEP.out _ HB6.out | exact KEEP.out _ (HB5.out.alloc HB5.out.size _) | exact KEEP.out _ HB5.out | exact KEEP.out _ HB4.out)
        (first
          | (go_at_call 14; have hq := HB5.out; refine (one_calls w5).mono ?_; rintro e w6 ⟨D1, D2, D3, D4, rfl, hl6, hb6⟩; have HL6 := Lib.hid hl6; have HB6 := Lib.hid (below_more HB5.out hb6); clear hb6 hl6 hq)
          | (go_at_call 14; have hq := HB5.out; refine (one_calls (w5.alloc (.cells (zR r) 33))).mono ?_; rintro e w6 ⟨D1, D2, D3, D4, rfl, hl6, hb6⟩; have HL6 := Lib.hid hl6; have HR6 := Lib.hid ((sl_zr HBD.out (Blk.new w5 (zR r) 33 (0, 0))).stay hb6); have HB6 := Lib.hid (below_more (below_more HB5.out (below_new w5 _)) hb6); clear hb6 hl6 hq)
          | (go_at_call 14; refine (one_calls _).mono ?_; rintro e w4 ⟨C1, C2, C3, C4, rfl, hl4, hb4⟩; have HL4 := Lib.hid hl4; have HB4 := Lib.hid (below_more HD.out hb4); clear hb4 hl4)
          | (go_at_call 13; refine (Safe_calls w4 HL4.out (HI.out.stay HB4.out) (HO.out.stay HB4.out) oneL_ok).mono ?_; rw [S1.out]; rintro e w5 ⟨rfl, hb5⟩; have HB5 := Lib.hid (below_more HB4.out hb5); clear hb5)
          | (go_at_call 15; have hq := HR6.out; refine (Held_calls w6 HL6.out (HI.out.stay HB6.out) (HO.out.stay HB6.out) hq oneL_ok).mono ?_; rw [S2.out]; rintro e w7 ⟨rfl, hb7⟩; have HB7 := Lib.hid (below_more HB6.out hb7); clear hb7 hq)
          | (go_at_call 15; have hq := HB6.out; have hn6 := below_new w6 (.cells (zR r) 33); refine (Held_calls _ (HL6.out.stay hn6) ((HI.out.stay HB6.out).stay hn6) ((HO.out.stay HB6.out).stay hn6) (sl_zr HBD.out (Blk.new w6 _ _ _)) oneL_ok).mono ?_; rw [S2.out]; rintro e w7 ⟨rfl, hb7⟩; have HB7 := Lib.hid (below_more (below_more HB6.out hn6) hb7); clear hb7 hn6 hq)
          | (go_at_call 9; (with_reducible refine (atm_l w7 (HO.out.stay HB7.out)).mono ?_); rw [S3.out]; rintro e w9 ⟨rfl, hb9⟩; have HB9 := Lib.hid (below_more HB7.out hb9); clear hb9)
          | (go_at_call 9; (with_reducible refine (atm_r w7 (HO.out.stay HB7.out)).mono ?_); rw [S3.out]; rintro e w9 ⟨rfl, hb9⟩; have HB9 := Lib.hid (below_more HB7.out hb9); clear hb9)
          | (go_at_call 12; refine (known_calls _).mono ?_; rintro e wa ⟨rfl, hba⟩; have HBA := Lib.hid (below_more HB9.out hba); clear hba)
          | fail)) | fail

      all_goals go_wp2_with fail
      all_goals go_ret
      all_goals exact ⟨rfl, below_more HB.out HBA.out⟩
end Go.Proofs.Ytmdggodkkkihhaa
