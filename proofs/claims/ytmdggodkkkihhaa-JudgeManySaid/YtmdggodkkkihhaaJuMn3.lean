/- Walk of JudgeMany. (Written by gen_many.py.) -/
import Derived.Test.YtmdggodkkkihhaaJuMa
import Derived.Deep.DeepCutAuto
set_option linter.unusedVariables false
namespace Go.Proofs.Ytmdggodkkkihhaa
open Go.RowKit

set_option maxRecDepth 4000 in
set_option maxHeartbeats 8000000 in
theorem judgeMany_in3 (s p d g r : Nat) (X5 : Bool) (hs : s ≤ 4) (hp : p ≤ 3) (hd : d ≤ 3) (hg : g ≤ 4) (hr : r ≤ 3) (hok : okM s p d g = false) (h3 : ((d : Int) == 1) = true) (h4 : ((g : Int) == 2) = false) (h5 : ((r : Int) == 1) = X5) (w : World) : Calls Try.prog 5 #[.int .i64 s, .int .i64 p, .int .i64 d, .int .i64 g, .int .i64 r] w fun e w' => e = .returned (.bool true) ∧ Below w.heap.size w w' := by
  have H1 := Lib.hid (many_of hs hp hd hg hr)
  have HX := Lib.hid (And.intro hok (And.intro h3 (And.intro h4 h5)))
  clear hok h3 h4 h5
  have hk1 := fun w => mk_zb hs w
  have hk2 := fun w => mk_zi (n := p) (by omega) w
  have hk3 := fun w => mk_zi (n := d) (by omega) w
  have hk4 := fun w => mk_zb hg w
  have hk5 := fun w => mk_zr (n := r) (by omega) w
  have i0 : (0 : Int) ≤ (s : Int) := by omega
  have i1 : (s : Int) ≤ 4 := by omega
  have i2 : (0 : Int) ≤ (p : Int) := by omega
  have i3 : (p : Int) ≤ 3 := by omega
  have i4 : (0 : Int) ≤ (d : Int) := by omega
  have i5 : (d : Int) ≤ 3 := by omega
  have i6 : (0 : Int) ≤ (g : Int) := by omega
  have i7 : (g : Int) ≤ 4 := by omega
  have i8 : (0 : Int) ≤ (r : Int) := by omega
  have i9 : (r : Int) ≤ 3 := by omega
  have HBD := Lib.hid (And.intro hs (And.intro hp (And.intro hd (And.intro hg hr))))
  clear hs hp hd hg hr
  go_enter Try.func5, Try.ntmps5
  go_upto_region 3 with fail
  go_cut [11] (fun s11 wx => InP wx s p s11 ∧ Below w.heap.size w wx)
  case first =>
    go_region_with fail
    all_goals (go_wp2_with fail; go_meet)
    all_goals (refine ⟨?_, by refine Below.drew ?_; repeat (first | exact Below.refl _ _ | refine Below.alloc ?_ (by simp; try omega) _)⟩)
    all_goals (first
      | exact InP.mk HBD.out.1 (by have := HBD.out; omega) (((Blk.at_ (by simp) _ _ _).alloc _).alloc _).drew ((Blk.at_ (by simp) _ _ _).alloc _).drew (Blk.at_ (by simp) _ _ _).drew
      | exact InP.mk HBD.out.1 (by have := HBD.out; omega) (((Blk.at_ (by simp) _ _ _).alloc _).alloc _).drew (Blk.at_ (by simp) _ _ _).drew ((Blk.at_ (by simp) _ _ _).alloc _).drew
      | exact InP.mk HBD.out.1 (by have := HBD.out; omega) ((Blk.at_ (by simp) _ _ _).alloc _).drew (((Blk.at_ (by simp) _ _ _).alloc _).alloc _).drew (Blk.at_ (by simp) _ _ _).drew
      | exact InP.mk HBD.out.1 (by have := HBD.out; omega) ((Blk.at_ (by simp) _ _ _).alloc _).drew (Blk.at_ (by simp) _ _ _).drew (((Blk.at_ (by simp) _ _ _).alloc _).alloc _).drew
      | exact InP.mk HBD.out.1 (by have := HBD.out; omega) (Blk.at_ (by simp) _ _ _).drew (((Blk.at_ (by simp) _ _ _).alloc _).alloc _).drew ((Blk.at_ (by simp) _ _ _).alloc _).drew
      | exact InP.mk HBD.out.1 (by have := HBD.out; omega) (Blk.at_ (by simp) _ _ _).drew ((Blk.at_ (by simp) _ _ _).alloc _).drew (((Blk.at_ (by simp) _ _ _).alloc _).alloc _).drew)
  case rest =>
    obtain ⟨⟨g1, A1, B1, rfl, p0, p1, hI⟩, hb⟩ := hcut
    have HB := Lib.hid hb
    have HI := Lib.hid hI
    clear hb hI
    go_upto_region 4 with fail
    generalize hgn : wc.heap.size = gn at *
    go_cut [12] (fun s12 wx => OuP wx d g s12 ∧ Below wc.heap.size wc wx)
    case first =>
      subst hgn
      go_region_with fail
      all_goals (go_wp2_with fail; go_meet)
      all_goals (refine ⟨?_, by refine Below.drew ?_; repeat (first | exact Below.refl _ _ | refine Below.alloc ?_ (by simp; try omega) _)⟩)
      all_goals (first
        | exact OuP.mk (by have := HBD.out; omega) HBD.out.2.2.2.1 (((Blk.at_ (by simp) _ _ _).alloc _).alloc _).drew ((Blk.at_ (by simp) _ _ _).alloc _).drew (Blk.at_ (by simp) _ _ _).drew
        | exact OuP.mk (by have := HBD.out; omega) HBD.out.2.2.2.1 (((Blk.at_ (by simp) _ _ _).alloc _).alloc _).drew (Blk.at_ (by simp) _ _ _).drew ((Blk.at_ (by simp) _ _ _).alloc _).drew
        | exact OuP.mk (by have := HBD.out; omega) HBD.out.2.2.2.1 ((Blk.at_ (by simp) _ _ _).alloc _).drew (((Blk.at_ (by simp) _ _ _).alloc _).alloc _).drew (Blk.at_ (by simp) _ _ _).drew
        | exact OuP.mk (by have := HBD.out; omega) HBD.out.2.2.2.1 ((Blk.at_ (by simp) _ _ _).alloc _).drew (Blk.at_ (by simp) _ _ _).drew (((Blk.at_ (by simp) _ _ _).alloc _).alloc _).drew
        | exact OuP.mk (by have := HBD.out; omega) HBD.out.2.2.2.1 (Blk.at_ (by simp) _ _ _).drew (((Blk.at_ (by simp) _ _ _).alloc _).alloc _).drew ((Blk.at_ (by simp) _ _ _).alloc _).drew
        | exact OuP.mk (by have := HBD.out; omega) HBD.out.2.2.2.1 (Blk.at_ (by simp) _ _ _).drew ((Blk.at_ (by simp) _ _ _).alloc _).drew (((Blk.at_ (by simp) _ _ _).alloc _).alloc _).drew)
    case rest =>
      obtain ⟨⟨g2, A2, B2, rfl, q0, q1, hO⟩, hb2⟩ := hcut
      have HI := Lib.hid (HI.out.stay hb2)
      have p0 := cell_stay hb2 p0
      have p1 := cell_stay hb2 p1
      have HO := Lib.hid hO
      have HB := Lib.hid (below_more HB.out hb2)
      clear hb2 hO
      clear hk1 hk2 hk3 hk4
      have hk6 := mk_int1
      have hk7 := mk_bool2
      have S1 := Lib.hid (H1.out.1.trans HX.out.1)
      have S2 : Hid (heldM oneL (mIn s p) (mOu d g) (List.replicate r ⟨0, 0, 0, false⟩) = (false && X5)) := Lib.hid (by rw [H1.out.2.1, HX.out.1, HX.out.2.2.2])
      have S3 : Hid (atmostM (mOu d g) (mOu 1 2) = (true && false)) := Lib.hid (by rw [H1.out.2.2, HX.out.2.1, HX.out.2.2.1])
      have HOK := Lib.hid HX.out.1
      unfold okM at HOK
      have HX3 := Lib.hid HX.out.2.1
      have HX4 := Lib.hid HX.out.2.2.1
      have HX5 := Lib.hid HX.out.2.2.2
      generalize hx1 : ((s : Int) == 2) = x1 at *
      generalize hx2 : ((p : Int) == 1) = x2 at *
      generalize hx3 : ((d : Int) == 1) = x3 at *
      generalize hx4 : ((g : Int) == 2) = x4 at *
      generalize hx5 : ((r : Int) == 1) = x5 at *
      obtain rfl : x3 = true := HX3.out
      obtain rfl : x4 = false := HX4.out
      obtain rfl : x5 = X5 := HX5.out
      clear H1 HX HX3 HX4 HX5
      generalize hwp : wc = w0 at *
      clear hwp i0 i1 i2 i3 i4 i5 i6 i7 i8 i9
      have HBD := Lib.hid (show r ≤ 4 by have := HBD.out; omega)
      go_upto_region 5 with fail
      go_cut [13] (fun s13 wx => s13 = .bool false ∧ wx = w0)
      case first =>
        cases x1 <;> cases x2
        all_goals first
          | exact absurd HOK.out (by decide)
          | (go_wp2_with fail; go_meet; exact ⟨rfl, rfl⟩)
      case rest =>
      obtain ⟨rfl, hwx⟩ := hcut
      obtain rfl : w0 = wc := hwx.symm
      clear hwx
      have KEEP := Lib.hid (fun (w1 : World) (hb : Below w0.heap.size w0 w1) => (⟨cell_stay hb p0, cell_stay hb p1, cell_stay hb q0, cell_stay hb q1⟩ :
        w1.cell? ⟨g1, 0, none⟩ = some (.slice A1 s s) ∧ w1.cell? ⟨g1, 1, none⟩ = some (.slice B1 p p) ∧ w1.cell? ⟨g2, 0, none⟩ = some (.slice A2 d d) ∧ w1.cell? ⟨g2, 1, none⟩ = some (.slice B2 g g)))
      have HD := Lib.hid (below_drawn (Below.refl w0.heap.size w0) 1)
      go_upto_region 6 with fail
      refine wp_region_held_drew (S := (fun w1 => w1.cell? ⟨g1, 0, none⟩ = some (.slice A1 s s) ∧ w1.cell? ⟨g1, 1, none⟩ = some (.slice B1 p p) ∧ w1.cell? ⟨g2, 0, none⟩ = some (.slice A2 d d) ∧ w1.cell? ⟨g2, 1, none⟩ = some (.slice B2 g g))) (by kernel_rfl) ?_ (fun hHeld => ?_)
      · exact KEEP.out _ HD.out
      refine wpAnyH_take (i := 1) (oi := { dst := some 77, op := Op.load 28 (Operand.tmp 11), type := 28, pos := "law.go:144", after := #[], guard := none }) (v := ?_) rfl (by kernel_rfl) (by kernel_rfl) (by kernel_rfl) (fun _ _ _ h => h) (Or.inl ⟨by rfl, ?_⟩) (by assumption) ?_
      rotate_left
      · intro w hSw; (try dsimp only at hSw); go_simp; (try (with_reducible rfl))
      (try simp only [Act.put, List.setIfInBounds_toArray, List.set_cons_zero, List.set_cons_succ])
      refine wpAnyH_take (i := 2) (oi := { dst := some 78, op := Op.load 25 (Operand.tmp 12), type := 25, pos := "law.go:144", after := #[], guard := none }) (v := ?_) rfl (by kernel_rfl) (by kernel_rfl) (by kernel_rfl) (fun _ _ _ h => h) (Or.inl ⟨by rfl, ?_⟩) (by assumption) ?_
      rotate_left
      · intro w hSw; (try dsimp only at hSw); go_simp; (try (with_reducible rfl))
      (try simp only [Act.put, List.setIfInBounds_toArray, List.set_cons_zero, List.set_cons_succ])
      refine wpAnyH_take (i := 4) (oi := { dst := some 80, op := Op.move (Operand.tmp 13), type := 4, pos := "law.go:144", after := #[], guard := none }) (v := ?_) rfl (by kernel_rfl) (by kernel_rfl) (by kernel_rfl) (fun _ _ _ h => h) (Or.inl ⟨by rfl, ?_⟩) (by assumption) ?_
      rotate_left
      · intro w hSw; (try dsimp only at hSw); go_simp; (try (with_reducible rfl))
      (try simp only [Act.put, List.setIfInBounds_toArray, List.set_cons_zero, List.set_cons_succ])
      refine wpAnyH_ready (rs := [0]) (by kernel_rfl) (by simp) ?_
      refine AllReadyH.cons (o := { dst := some 76, op := Op.call { callee := Callee.value (Operand.func 14), args := #[], argTypes := #[] }, type := 40, pos := "law.go:144", after := #[], guard := none }) rfl (fun K hK => ?_) ?_
      ·
        go_simp
        (first
          | (go_at_call 14; have hq := HB5.out; refine (one_calls w5).mono ?_; rintro e w6 ⟨D1, D2, D3, D4, rfl, hl6, hb6⟩; have HL6 := Lib.hid hl6; have HB6 := Lib.hid (below_more HB5.out hb6); clear hb6 hl6 hq)
          | (go_at_call 14; have hq := HB5.out; refine (one_calls (w5.alloc (.cells (zR r) 33))).mono ?_; rintro e w6 ⟨D1, D2, D3, D4, rfl, hl6, hb6⟩; have HL6 := Lib.hid hl6; have HR6 := Lib.hid ((sl_zr HBD.out (Blk.new w5 (zR r) 33 (0, 0))).stay hb6); have HB6 := Lib.hid (below_more (below_more HB5.out (below_new w5 _)) hb6); clear hb6 hl6 hq)
          | (go_at_call 14; refine (one_calls _).mono ?_; rintro e w4 ⟨C1, C2, C3, C4, rfl, hl4, hb4⟩; have HL4 := Lib.hid hl4; have HB4 := Lib.hid (below_more HD.out hb4); clear hb4 hl4)
          | (go_at_call 13; refine (Safe_calls w4 HL4.out (HI.out.stay HB4.out) (HO.out.stay HB4.out) oneL_ok).mono ?_; rw [S1.out]; rintro e w5 ⟨rfl, hb5⟩; have HB5 := Lib.hid (below_more HB4.out hb5); clear hb5)
          | (go_at_call 15; have hq := HR6.out; refine (Held_calls w6 HL6.out (HI.out.stay HB6.out) (HO.out.stay HB6.out) hq oneL_ok).mono ?_; rw [S2.out]; rintro e w7 ⟨rfl, hb7⟩; have HB7 := Lib.hid (below_more HB6.out hb7); clear hb7 hq)
          | (go_at_call 15; have hq := HB6.out; have hn6 := below_new w6 (.cells (zR r) 33); refine (Held_calls _ (HL6.out.stay hn6) ((HI.out.stay HB6.out).stay hn6) ((HO.out.stay HB6.out).stay hn6) (sl_zr HBD.out (Blk.new w6 _ _ _)) oneL_ok).mono ?_; rw [S2.out]; rintro e w7 ⟨rfl, hb7⟩; have HB7 := Lib.hid (below_more (below_more HB6.out hn6) hb7); clear hb7 hn6 hq)
          | (go_at_call 9; (with_reducible refine (atm_l w7 (HO.out.stay HB7.out)).mono ?_); rw [S3.out]; rintro e w9 ⟨rfl, hb9⟩; have HB9 := Lib.hid (below_more HB7.out hb9); clear hb9)
          | (go_at_call 9; (with_reducible refine (atm_r w7 (HO.out.stay HB7.out)).mono ?_); rw [S3.out]; rintro e w9 ⟨rfl, hb9⟩; have HB9 := Lib.hid (below_more HB7.out hb9); clear hb9)
          | (go_at_call 12; refine (known_calls _).mono ?_; rintro e wa ⟨rfl, hba⟩; have HBA := Lib.hid (below_more HB9.out hba); clear hba)
          | fail)
        refine hK.out _ _ (by (first | exact KEEP.out _ HBA.out | exact KEEP.out _ HB9.out | exact KEEP.out _ (HB7.out.alloc HB7.out.size _) | exact KEEP.out _ ((HB7.out.alloc HB7.out.size _).alloc (HB7.out.alloc HB7.out.size _).size _) | exact KEEP.out _ HB7.out | exact KEEP.out _ (HB6.out.alloc HB6.out.size _) | exact KEEP.out _ HB6.out | exact KEEP.out _ (HB5.out.alloc HB5.out.size _) | exact KEEP.out _ HB5.out | exact KEEP.out _ HB4.out)) (fun hHeld => ?_)
        clear hK K
        (try simp only [Act.put, List.setIfInBounds_toArray, List.set_cons_zero, List.set_cons_succ])
        refine wpAnyH_ready (rs := [3]) (by kernel_rfl) (by simp) ?_
        refine AllReadyH.cons (o := { dst := some 79, op := Op.call { callee := Callee.value (Operand.func 13), args := #[Operand.tmp 76, Operand.tmp 77, Operand.tmp 78], argTypes := #[40, 28, 25] }, type := 4, pos := "law.go:144", after := #[{ on := 0, ground := Ground.data }, { on := 1, ground := Ground.data }, { on := 2, ground := Ground.data }, { on := 0, ground := Ground.chain }], guard := none }) rfl (fun K hK => ?_) ?_
        ·
          go_simp
          (first
            | (go_at_call 14; have hq := HB5.out; refine (one_calls w5).mono ?_; rintro e w6 ⟨D1, D2, D3, D4, rfl, hl6, hb6⟩; have HL6 := Lib.hid hl6; have HB6 := Lib.hid (below_more HB5.out hb6); clear hb6 hl6 hq)
            | (go_at_call 14; have hq := HB5.out; refine (one_calls (w5.alloc (.cells (zR r) 33))).mono ?_; rintro e w6 ⟨D1, D2, D3, D4, rfl, hl6, hb6⟩; have HL6 := Lib.hid hl6; have HR6 := Lib.hid ((sl_zr HBD.out (Blk.new w5 (zR r) 33 (0, 0))).stay hb6); have HB6 := Lib.hid (below_more (below_more HB5.out (below_new w5 _)) hb6); clear hb6 hl6 hq)
            | (go_at_call 14; refine (one_calls _).mono ?_; rintro e w4 ⟨C1, C2, C3, C4, rfl, hl4, hb4⟩; have HL4 := Lib.hid hl4; have HB4 := Lib.hid (below_more HD.out hb4); clear hb4 hl4)
            | (go_at_call 13; refine (Safe_calls w4 HL4.out (HI.out.stay HB4.out) (HO.out.stay HB4.out) oneL_ok).mono ?_; rw [S1.out]; rintro e w5 ⟨rfl, hb5⟩; have HB5 := Lib.hid (below_more HB4.out hb5); clear hb5)
            | (go_at_call 15; have hq := HR6.out; refine (Held_calls w6 HL6.out (HI.out.stay HB6.out) (HO.out.stay HB6.out) hq oneL_ok).mono ?_; rw [S2.out]; rintro e w7 ⟨rfl, hb7⟩; have HB7 := Lib.hid (below_more HB6.out hb7); clear hb7 hq)
            | (go_at_call 15; have hq := HB6.out; have hn6 := below_new w6 (.cells (zR r) 33); refine (Held_calls _ (HL6.out.stay hn6) ((HI.out.stay HB6.out).stay hn6) ((HO.out.stay HB6.out).stay hn6) (sl_zr HBD.out (Blk.new w6 _ _ _)) oneL_ok).mono ?_; rw [S2.out]; rintro e w7 ⟨rfl, hb7⟩; have HB7 := Lib.hid (below_more (below_more HB6.out hn6) hb7); clear hb7 hn6 hq)
            | (go_at_call 9; (with_reducible refine (atm_l w7 (HO.out.stay HB7.out)).mono ?_); rw [S3.out]; rintro e w9 ⟨rfl, hb9⟩; have HB9 := Lib.hid (below_more HB7.out hb9); clear hb9)
            | (go_at_call 9; (with_reducible refine (atm_r w7 (HO.out.stay HB7.out)).mono ?_); rw [S3.out]; rintro e w9 ⟨rfl, hb9⟩; have HB9 := Lib.hid (below_more HB7.out hb9); clear hb9)
            | (go_at_call 12; refine (known_calls _).mono ?_; rintro e wa ⟨rfl, hba⟩; have HBA := Lib.hid (below_more HB9.out hba); clear hba)
            | fail)
          refine hK.out _ _ (by (first | exact KEEP.out _ HBA.out | exact KEEP.out _ HB9.out | exact KEEP.out _ (HB7.out.alloc HB7.out.size _) | exact KEEP.out _ ((HB7.out.alloc HB7.out.size _).alloc (HB7.out.alloc HB7.out.size _).size _) | exact KEEP.out _ HB7.out | exact KEEP.out _ (HB6.out.alloc HB6.out.size _) | exact KEEP.out _ HB6.out | exact KEEP.out _ (HB5.out.alloc HB5.out.size _) | exact KEEP.out _ HB5.out | exact KEEP.out _ HB4.out)) (fun hHeld => ?_)
          clear hK K
          (try simp only [Act.put, List.setIfInBounds_toArray, List.set_cons_zero, List.set_cons_succ])
          refine wpAnyH_take (i := 5) (oi := { dst := some 81, op := Op.binOp BinOp.eql 4 (Operand.tmp 79) (Operand.tmp 80) 4, type := 4, pos := "law.go:144", after := #[{ on := 3, ground := Ground.data }, { on := 4, ground := Ground.data }], guard := none }) (v := ?_) rfl (by kernel_rfl) (by kernel_rfl) (by kernel_rfl) (fun _ _ _ h => h) (Or.inl ⟨by rfl, ?_⟩) (by assumption) ?_
          rotate_left
          · intro w hSw; (try dsimp only at hSw); go_simp; (try (with_reducible rfl))
          (try simp only [Act.put, List.setIfInBounds_toArray, List.set_cons_zero, List.set_cons_succ])
          refine wpAnyH_take (i := 6) (oi := { dst := some 82, op := Op.move (Operand.tmp 81), type := 4, pos := "law.go:144", after := #[{ on := 5, ground := Ground.data }, { on := 3, ground := Ground.chain }], guard := none }) (v := ?_) rfl (by kernel_rfl) (by kernel_rfl) (by kernel_rfl) (fun _ _ _ h => h) (Or.inl ⟨by rfl, ?_⟩) (by assumption) ?_
          rotate_left
          · intro w hSw; (try dsimp only at hSw); go_simp; (try (with_reducible rfl))
          (try simp only [Act.put, List.setIfInBounds_toArray, List.set_cons_zero, List.set_cons_succ])
          refine wpAnyH_take (i := 8) (oi := { dst := some 84, op := Op.load 28 (Operand.tmp 11), type := 28, pos := "law.go:144", after := #[{ on := 6, ground := Ground.guard }], guard := some (6, true) }) (v := ?_) rfl (by kernel_rfl) (by kernel_rfl) (by kernel_rfl) (fun _ _ _ h => h) (Or.inl ⟨by rfl, ?_⟩) (by assumption) ?_
          rotate_left
          · intro w hSw; (try dsimp only at hSw); go_simp; (try (with_reducible rfl))
          (try simp only [Act.put, List.setIfInBounds_toArray, List.set_cons_zero, List.set_cons_succ])
          refine wpAnyH_take (i := 9) (oi := { dst := some 85, op := Op.load 25 (Operand.tmp 12), type := 25, pos := "law.go:144", after := #[{ on := 6, ground := Ground.guard }], guard := some (6, true) }) (v := ?_) rfl (by kernel_rfl) (by kernel_rfl) (by kernel_rfl) (fun _ _ _ h => h) (Or.inl ⟨by rfl, ?_⟩) (by assumption) ?_
          rotate_left
          · intro w hSw; (try dsimp only at hSw); go_simp; (try (with_reducible rfl))
          (try simp only [Act.put, List.setIfInBounds_toArray, List.set_cons_zero, List.set_cons_succ])
          refine wpAnyH_take (i := 10) (oi := { dst := some 86, op := Op.move (Operand.tmp 4), type := 3, pos := "law.go:144", after := #[{ on := 6, ground := Ground.guard }], guard := some (6, true) }) (v := ?_) rfl (by kernel_rfl) (by kernel_rfl) (by kernel_rfl) (fun _ _ _ h => h) (Or.inl ⟨by rfl, ?_⟩) (by assumption) ?_
          rotate_left
          · intro w hSw; (try dsimp only at hSw); go_simp; (try (with_reducible rfl))
          (try simp only [Act.put, List.setIfInBounds_toArray, List.set_cons_zero, List.set_cons_succ])
          refine wpAnyH_take (i := 13) (oi := { dst := some 89, op := Op.move (Operand.tmp 13), type := 4, pos := "law.go:144", after := #[{ on := 6, ground := Ground.guard }], guard := some (6, true) }) (v := ?_) rfl (by kernel_rfl) (by kernel_rfl) (by kernel_rfl) (fun _ _ _ h => h) (Or.inl ⟨by rfl, ?_⟩) (by assumption) ?_
          rotate_left
          · intro w hSw; (try dsimp only at hSw); go_simp; (try (with_reducible rfl))
          (try simp only [Act.put, List.setIfInBounds_toArray, List.set_cons_zero, List.set_cons_succ])
          refine wpAnyH_ready (rs := [7, 11]) (by kernel_rfl) (by simp) ?_
          refine AllReadyH.cons (o := { dst := some 83, op := Op.call { callee := Callee.value (Operand.func 14), args := #[], argTypes := #[] }, type := 40, pos := "law.go:144", after := #[{ on := 6, ground := Ground.chain }, { on := 6, ground := Ground.guard }], guard := some (6, true) }) rfl (fun K hK => ?_) ?_
          ·
            go_simp
            (first
              | (go_at_call 14; have hq := HB5.out; refine (one_calls w5).mono ?_; rintro e w6 ⟨D1, D2, D3, D4, rfl, hl6, hb6⟩; have HL6 := Lib.hid hl6; have HB6 := Lib.hid (below_more HB5.out hb6); clear hb6 hl6 hq)
              | (go_at_call 14; have hq := HB5.out; refine (one_calls (w5.alloc (.cells (zR r) 33))).mono ?_; rintro e w6 ⟨D1, D2, D3, D4, rfl, hl6, hb6⟩; have HL6 := Lib.hid hl6; have HR6 := Lib.hid ((sl_zr HBD.out (Blk.new w5 (zR r) 33 (0, 0))).stay hb6); have HB6 := Lib.hid (below_more (below_more HB5.out (below_new w5 _)) hb6); clear hb6 hl6 hq)
              | (go_at_call 14; refine (one_calls _).mono ?_; rintro e w4 ⟨C1, C2, C3, C4, rfl, hl4, hb4⟩; have HL4 := Lib.hid hl4; have HB4 := Lib.hid (below_more HD.out hb4); clear hb4 hl4)
              | (go_at_call 13; refine (Safe_calls w4 HL4.out (HI.out.stay HB4.out) (HO.out.stay HB4.out) oneL_ok).mono ?_; rw [S1.out]; rintro e w5 ⟨rfl, hb5⟩; have HB5 := Lib.hid (below_more HB4.out hb5); clear hb5)
              | (go_at_call 15; have hq := HR6.out; refine (Held_calls w6 HL6.out (HI.out.stay HB6.out) (HO.out.stay HB6.out) hq oneL_ok).mono ?_; rw [S2.out]; rintro e w7 ⟨rfl, hb7⟩; have HB7 := Lib.hid (below_more HB6.out hb7); clear hb7 hq)
              | (go_at_call 15; have hq := HB6.out; have hn6 := below_new w6 (.cells (zR r) 33); refine (Held_calls _ (HL6.out.stay hn6) ((HI.out.stay HB6.out).stay hn6) ((HO.out.stay HB6.out).stay hn6) (sl_zr HBD.out (Blk.new w6 _ _ _)) oneL_ok).mono ?_; rw [S2.out]; rintro e w7 ⟨rfl, hb7⟩; have HB7 := Lib.hid (below_more (below_more HB6.out hn6) hb7); clear hb7 hn6 hq)
              | (go_at_call 9; (with_reducible refine (atm_l w7 (HO.out.stay HB7.out)).mono ?_); rw [S3.out]; rintro e w9 ⟨rfl, hb9⟩; have HB9 := Lib.hid (below_more HB7.out hb9); clear hb9)
              | (go_at_call 9; (with_reducible refine (atm_r w7 (HO.out.stay HB7.out)).mono ?_); rw [S3.out]; rintro e w9 ⟨rfl, hb9⟩; have HB9 := Lib.hid (below_more HB7.out hb9); clear hb9)
              | (go_at_call 12; refine (known_calls _).mono ?_; rintro e wa ⟨rfl, hba⟩; have HBA := Lib.hid (below_more HB9.out hba); clear hba)
              | fail)
            refine hK.out _ _ (by (first | exact KEEP.out _ HBA.out | exact KEEP.out _ HB9.out | exact KEEP.out _ (HB7.out.alloc HB7.out.size _) | exact KEEP.out _ ((HB7.out.alloc HB7.out.size _).alloc (HB7.out.alloc HB7.out.size _).size _) | exact KEEP.out _ HB7.out | exact KEEP.out _ (HB6.out.alloc HB6.out.size _) | exact KEEP.out _ HB6.out | exact KEEP.out _ (HB5.out.alloc HB5.out.size _) | exact KEEP.out _ HB5.out | exact KEEP.out _ HB4.out)) (fun hHeld => ?_)
            clear hK K
            (try simp only [Act.put, List.setIfInBounds_toArray, List.set_cons_zero, List.set_cons_succ])
            refine wpAnyH_ready (rs := [11]) (by kernel_rfl) (by simp) ?_
            refine AllReadyH.cons (o := { dst := some 87, op := Op.makeSlice 34 (Operand.tmp 86) (Operand.tmp 86), type := 34, pos := "law.go:144", after := #[{ on := 10, ground := Ground.data }, { on := 10, ground := Ground.data }, { on := 6, ground := Ground.guard }], guard := some (6, true) }) rfl (fun K hK => ?_) ?_
            ·
              go_simp
              refine hK.out _ _ (by (first | exact KEEP.out _ HBA.out | exact KEEP.out _ HB9.out | exact KEEP.out _ (HB7.out.alloc HB7.out.size _) | exact KEEP.out _ ((HB7.out.alloc HB7.out.size _).alloc (HB7.out.alloc HB7.out.size _).size _) | exact KEEP.out _ HB7.out | exact KEEP.out _ (HB6.out.alloc HB6.out.size _) | exact KEEP.out _ HB6.out | exact KEEP.out _ (HB5.out.alloc HB5.out.size _) | exact KEEP.out _ HB5.out | exact KEEP.out _ HB4.out)) (fun hHeld => ?_)
              clear hK K
              (try simp only [Act.put, List.setIfInBounds_toArray, List.set_cons_zero, List.set_cons_succ])
              refine wpAnyH_ready (rs := [12]) (by kernel_rfl) (by simp) ?_
              refine AllReadyH.cons (o := { dst := some 88, op := Op.call { callee := Callee.value (Operand.func 15), args := #[Operand.tmp 83, Operand.tmp 84, Operand.tmp 85, Operand.tmp 87], argTypes := #[40, 28, 25, 34] }, type := 4, pos := "law.go:144", after := #[{ on := 7, ground := Ground.data }, { on := 8, ground := Ground.data }, { on := 9, ground := Ground.data }, { on := 11, ground := Ground.data }, { on := 7, ground := Ground.chain }, { on := 6, ground := Ground.guard }], guard := some (6, true) }) rfl (fun K hK => ?_) ?_
              ·
                go_simp
                (first
                  | (go_at_call 14; have hq := HB5.out; refine (one_calls w5).mono ?_; rintro e w6 ⟨D1, D2, D3, D4, rfl, hl6, hb6⟩; have HL6 := Lib.hid hl6; have HB6 := Lib.hid (below_more HB5.out hb6); clear hb6 hl6 hq)
                  | (go_at_call 14; have hq := HB5.out; refine (one_calls (w5.alloc (.cells (zR r) 33))).mono ?_; rintro e w6 ⟨D1, D2, D3, D4, rfl, hl6, hb6⟩; have HL6 := Lib.hid hl6; have HR6 := Lib.hid ((sl_zr HBD.out (Blk.new w5 (zR r) 33 (0, 0))).stay hb6); have HB6 := Lib.hid (below_more (below_more HB5.out (below_new w5 _)) hb6); clear hb6 hl6 hq)
                  | (go_at_call 14; refine (one_calls _).mono ?_; rintro e w4 ⟨C1, C2, C3, C4, rfl, hl4, hb4⟩; have HL4 := Lib.hid hl4; have HB4 := Lib.hid (below_more HD.out hb4); clear hb4 hl4)
                  | (go_at_call 13; refine (Safe_calls w4 HL4.out (HI.out.stay HB4.out) (HO.out.stay HB4.out) oneL_ok).mono ?_; rw [S1.out]; rintro e w5 ⟨rfl, hb5⟩; have HB5 := Lib.hid (below_more HB4.out hb5); clear hb5)
                  | (go_at_call 15; have hq := HR6.out; refine (Held_calls w6 HL6.out (HI.out.stay HB6.out) (HO.out.stay HB6.out) hq oneL_ok).mono ?_; rw [S2.out]; rintro e w7 ⟨rfl, hb7⟩; have HB7 := Lib.hid (below_more HB6.out hb7); clear hb7 hq)
                  | (go_at_call 15; have hq := HB6.out; have hn6 := below_new w6 (.cells (zR r) 33); refine (Held_calls _ (HL6.out.stay hn6) ((HI.out.stay HB6.out).stay hn6) ((HO.out.stay HB6.out).stay hn6) (sl_zr HBD.out (Blk.new w6 _ _ _)) oneL_ok).mono ?_; rw [S2.out]; rintro e w7 ⟨rfl, hb7⟩; have HB7 := Lib.hid (below_more (below_more HB6.out hn6) hb7); clear hb7 hn6 hq)
                  | (go_at_call 9; (with_reducible refine (atm_l w7 (HO.out.stay HB7.out)).mono ?_); rw [S3.out]; rintro e w9 ⟨rfl, hb9⟩; have HB9 := Lib.hid (below_more HB7.out hb9); clear hb9)
                  | (go_at_call 9; (with_reducible refine (atm_r w7 (HO.out.stay HB7.out)).mono ?_); rw [S3.out]; rintro e w9 ⟨rfl, hb9⟩; have HB9 := Lib.hid (below_more HB7.out hb9); clear hb9)
                  | (go_at_call 12; refine (known_calls _).mono ?_; rintro e wa ⟨rfl, hba⟩; have HBA := Lib.hid (below_more HB9.out hba); clear hba)
                  | fail)
                refine hK.out _ _ (by (first | exact KEEP.out _ HBA.out | exact KEEP.out _ HB9.out | exact KEEP.out _ (HB7.out.alloc HB7.out.size _) | exact KEEP.out _ ((HB7.out.alloc HB7.out.size _).alloc (HB7.out.alloc HB7.out.size _).size _) | exact KEEP.out _ HB7.out | exact KEEP.out _ (HB6.out.alloc HB6.out.size _) | exact KEEP.out _ HB6.out | exact KEEP.out _ (HB5.out.alloc HB5.out.size _) | exact KEEP.out _ HB5.out | exact KEEP.out _ HB4.out)) (fun hHeld => ?_)
                clear hK K
                (try simp only [Act.put, List.setIfInBounds_toArray, List.set_cons_zero, List.set_cons_succ])
                refine wpAnyH_take (i := 14) (oi := { dst := some 90, op := Op.move (Operand.tmp 89), type := 4, pos := "law.go:144", after := #[{ on := 13, ground := Ground.data }, { on := 12, ground := Ground.chain }, { on := 6, ground := Ground.guard }], guard := some (6, true) }) (v := ?_) rfl (by kernel_rfl) (by kernel_rfl) (by kernel_rfl) (fun _ _ _ h => h) (Or.inl ⟨by rfl, ?_⟩) (by assumption) ?_
                rotate_left
                · intro w hSw; (try dsimp only at hSw); go_simp; (try (with_reducible rfl))
                (try simp only [Act.put, List.setIfInBounds_toArray, List.set_cons_zero, List.set_cons_succ])
                refine wpAnyH_take (i := 15) (oi := { dst := some 91, op := Op.move (Operand.tmp 4), type := 3, pos := "law.go:144", after := #[{ on := 14, ground := Ground.guard }], guard := some (14, true) }) (v := undef) rfl (by kernel_rfl) (by kernel_rfl) (by kernel_rfl) (fun _ _ _ h => h) (Or.inr ⟨by rfl, rfl⟩) (by assumption) ?_
                (try simp only [Act.put, List.setIfInBounds_toArray, List.set_cons_zero, List.set_cons_succ])
                refine wpAnyH_take (i := 16) (oi := { dst := some 92, op := Op.binOp BinOp.eql 3 (Operand.tmp 91) (Operand.const (Value.int IntKind.i64 1)) 3, type := 4, pos := "law.go:144", after := #[{ on := 15, ground := Ground.data }, { on := 14, ground := Ground.guard }], guard := some (14, true) }) (v := undef) rfl (by kernel_rfl) (by kernel_rfl) (by kernel_rfl) (fun _ _ _ h => h) (Or.inr ⟨by rfl, rfl⟩) (by assumption) ?_
                (try simp only [Act.put, List.setIfInBounds_toArray, List.set_cons_zero, List.set_cons_succ])
                refine wpAnyH_take (i := 17) (oi := { dst := some 93, op := Op.pick (Operand.tmp 90) (Operand.tmp 92) (Operand.const (Value.bool false)), type := 4, pos := "law.go:144", after := #[{ on := 14, ground := Ground.data }, { on := 16, ground := Ground.data }, { on := 6, ground := Ground.guard }], guard := some (6, true) }) (v := ?_) rfl (by kernel_rfl) (by kernel_rfl) (by kernel_rfl) (fun _ _ _ h => h) (Or.inl ⟨by rfl, ?_⟩) (by assumption) ?_
                rotate_left
                · intro w hSw; (try dsimp only at hSw); go_simp; (try (with_reducible rfl))
                (try simp only [Act.put, List.setIfInBounds_toArray, List.set_cons_zero, List.set_cons_succ])
                refine wpAnyH_take (i := 18) (oi := { dst := some 94, op := Op.binOp BinOp.eql 4 (Operand.tmp 88) (Operand.tmp 93) 4, type := 4, pos := "law.go:144", after := #[{ on := 12, ground := Ground.data }, { on := 17, ground := Ground.data }, { on := 6, ground := Ground.guard }], guard := some (6, true) }) (v := ?_) rfl (by kernel_rfl) (by kernel_rfl) (by kernel_rfl) (fun _ _ _ h => h) (Or.inl ⟨by rfl, ?_⟩) (by assumption) ?_
                rotate_left
                · intro w hSw; (try dsimp only at hSw); go_simp; (try (with_reducible rfl))
                (try simp only [Act.put, List.setIfInBounds_toArray, List.set_cons_zero, List.set_cons_succ])
                refine wpAnyH_take (i := 19) (oi := { dst := some 95, op := Op.pick (Operand.tmp 82) (Operand.tmp 94) (Operand.const (Value.bool false)), type := 4, pos := "law.go:144", after := #[{ on := 6, ground := Ground.data }, { on := 18, ground := Ground.data }], guard := none }) (v := ?_) rfl (by kernel_rfl) (by kernel_rfl) (by kernel_rfl) (fun _ _ _ h => h) (Or.inl ⟨by rfl, ?_⟩) (by assumption) ?_
                rotate_left
                · intro w hSw; (try dsimp only at hSw); go_simp; (try (with_reducible rfl))
                (try simp only [Act.put, List.setIfInBounds_toArray, List.set_cons_zero, List.set_cons_succ])
                refine wpAnyH_take (i := 20) (oi := { dst := some 96, op := Op.move (Operand.tmp 95), type := 4, pos := "law.go:144", after := #[{ on := 19, ground := Ground.data }, { on := 14, ground := Ground.chain }], guard := none }) (v := ?_) rfl (by kernel_rfl) (by kernel_rfl) (by kernel_rfl) (fun _ _ _ h => h) (Or.inl ⟨by rfl, ?_⟩) (by assumption) ?_
                rotate_left
                · intro w hSw; (try dsimp only at hSw); go_simp; (try (with_reducible rfl))
                (try simp only [Act.put, List.setIfInBounds_toArray, List.set_cons_zero, List.set_cons_succ])
                refine wpAnyH_take (i := 21) (oi := { dst := some 97, op := Op.load 25 (Operand.tmp 12), type := 25, pos := "law.go:144", after := #[{ on := 20, ground := Ground.guard }], guard := some (20, true) }) (v := ?_) rfl (by kernel_rfl) (by kernel_rfl) (by kernel_rfl) (fun _ _ _ h => h) (Or.inl ⟨by rfl, ?_⟩) (by assumption) ?_
                rotate_left
                · intro w hSw; (try dsimp only at hSw); go_simp; (try (with_reducible rfl))
                (try simp only [Act.put, List.setIfInBounds_toArray, List.set_cons_zero, List.set_cons_succ])
                refine wpAnyH_take (i := 26) (oi := { dst := some 102, op := Op.move (Operand.tmp 2), type := 3, pos := "law.go:144", after := #[{ on := 20, ground := Ground.guard }], guard := some (20, true) }) (v := ?_) rfl (by kernel_rfl) (by kernel_rfl) (by kernel_rfl) (fun _ _ _ h => h) (Or.inl ⟨by rfl, ?_⟩) (by assumption) ?_
                rotate_left
                · intro w hSw; (try dsimp only at hSw); go_simp; (try (with_reducible rfl))
                (try simp only [Act.put, List.setIfInBounds_toArray, List.set_cons_zero, List.set_cons_succ])
                refine wpAnyH_take (i := 27) (oi := { dst := some 103, op := Op.binOp BinOp.eql 3 (Operand.tmp 102) (Operand.const (Value.int IntKind.i64 1)) 3, type := 4, pos := "law.go:144", after := #[{ on := 26, ground := Ground.data }, { on := 20, ground := Ground.guard }], guard := some (20, true) }) (v := ?_) rfl (by kernel_rfl) (by kernel_rfl) (by kernel_rfl) (fun _ _ _ h => h) (Or.inl ⟨by rfl, ?_⟩) (by assumption) ?_
                rotate_left
                · intro w hSw; (try dsimp only at hSw); go_simp; (try (with_reducible rfl))
                (try simp only [Act.put, List.setIfInBounds_toArray, List.set_cons_zero, List.set_cons_succ])
                refine wpAnyH_ready (rs := [22, 23]) (by kernel_rfl) (by simp) ?_
                refine AllReadyH.cons (o := { dst := some 98, op := Op.makeSlice 22 (Operand.const (Value.int IntKind.i64 1)) (Operand.const (Value.int IntKind.i64 1)), type := 22, pos := "law.go:144", after := #[{ on := 20, ground := Ground.guard }], guard := some (20, true) }) rfl (fun K hK => ?_) ?_
                ·
                  go_simp
                  refine hK.out _ _ (by (first | exact KEEP.out _ HBA.out | exact KEEP.out _ HB9.out | exact KEEP.out _ (HB7.out.alloc HB7.out.size _) | exact KEEP.out _ ((HB7.out.alloc HB7.out.size _).alloc (HB7.out.alloc HB7.out.size _).size _) | exact KEEP.out _ HB7.out | exact KEEP.out _ (HB6.out.alloc HB6.out.size _) | exact KEEP.out _ HB6.out | exact KEEP.out _ (HB5.out.alloc HB5.out.size _) | exact KEEP.out _ HB5.out | exact KEEP.out _ HB4.out)) (fun hHeld => ?_)
                  clear hK K
                  (try simp only [Act.put, List.setIfInBounds_toArray, List.set_cons_zero, List.set_cons_succ])
                  refine wpAnyH_ready (rs := [23]) (by kernel_rfl) (by simp) ?_
                  refine AllReadyH.cons (o := { dst := some 99, op := Op.makeSlice 23 (Operand.const (Value.int IntKind.i64 2)) (Operand.const (Value.int IntKind.i64 2)), type := 23, pos := "law.go:144", after := #[{ on := 20, ground := Ground.guard }], guard := some (20, true) }) rfl (fun K hK => ?_) ?_
                  ·
                    go_simp
                    refine hK.out _ _ (by (first | exact KEEP.out _ HBA.out | exact KEEP.out _ HB9.out | exact KEEP.out _ (HB7.out.alloc HB7.out.size _) | exact KEEP.out _ ((HB7.out.alloc HB7.out.size _).alloc (HB7.out.alloc HB7.out.size _).size _) | exact KEEP.out _ HB7.out | exact KEEP.out _ (HB6.out.alloc HB6.out.size _) | exact KEEP.out _ HB6.out | exact KEEP.out _ (HB5.out.alloc HB5.out.size _) | exact KEEP.out _ HB5.out | exact KEEP.out _ HB4.out)) (fun hHeld => ?_)
                    clear hK K
                    (try simp only [Act.put, List.setIfInBounds_toArray, List.set_cons_zero, List.set_cons_succ])
                    refine wpAnyH_take (i := 24) (oi := { dst := some 100, op := Op.build 25 #[(0, Operand.tmp 98), (1, Operand.tmp 99)], type := 25, pos := "law.go:144", after := #[{ on := 22, ground := Ground.data }, { on := 23, ground := Ground.data }, { on := 20, ground := Ground.guard }], guard := some (20, true) }) (v := ?_) rfl (by kernel_rfl) (by kernel_rfl) (by kernel_rfl) (fun _ _ _ h => h) (Or.inl ⟨by rfl, ?_⟩) (by assumption) ?_
                    rotate_left
                    · intro w hSw; (try dsimp only at hSw); go_simp; (try (with_reducible rfl))
                    (try simp only [Act.put, List.setIfInBounds_toArray, List.set_cons_zero, List.set_cons_succ])
                    refine wpAnyH_ready (rs := [25]) (by kernel_rfl) (by simp) ?_
                    refine AllReadyH.cons (o := { dst := some 101, op := Op.call { callee := Callee.value (Operand.func 9), args := #[Operand.tmp 97, Operand.tmp 100], argTypes := #[25, 25] }, type := 4, pos := "law.go:144", after := #[{ on := 21, ground := Ground.data }, { on := 24, ground := Ground.data }, { on := 20, ground := Ground.chain }, { on := 20, ground := Ground.guard }], guard := some (20, true) }) rfl (fun K hK => ?_) ?_
                    ·
                      go_simp
                      (first
                        | (go_at_call 14; have hq := HB5.out; refine (one_calls w5).mono ?_; rintro e w6 ⟨D1, D2, D3, D4, rfl, hl6, hb6⟩; have HL6 := Lib.hid hl6; have HB6 := Lib.hid (below_more HB5.out hb6); clear hb6 hl6 hq)
                        | (go_at_call 14; have hq := HB5.out; refine (one_calls (w5.alloc (.cells (zR r) 33))).mono ?_; rintro e w6 ⟨D1, D2, D3, D4, rfl, hl6, hb6⟩; have HL6 := Lib.hid hl6; have HR6 := Lib.hid ((sl_zr HBD.out (Blk.new w5 (zR r) 33 (0, 0))).stay hb6); have HB6 := Lib.hid (below_more (below_more HB5.out (below_new w5 _)) hb6); clear hb6 hl6 hq)
                        | (go_at_call 14; refine (one_calls _).mono ?_; rintro e w4 ⟨C1, C2, C3, C4, rfl, hl4, hb4⟩; have HL4 := Lib.hid hl4; have HB4 := Lib.hid (below_more HD.out hb4); clear hb4 hl4)
                        | (go_at_call 13; refine (Safe_calls w4 HL4.out (HI.out.stay HB4.out) (HO.out.stay HB4.out) oneL_ok).mono ?_; rw [S1.out]; rintro e w5 ⟨rfl, hb5⟩; have HB5 := Lib.hid (below_more HB4.out hb5); clear hb5)
                        | (go_at_call 15; have hq := HR6.out; refine (Held_calls w6 HL6.out (HI.out.stay HB6.out) (HO.out.stay HB6.out) hq oneL_ok).mono ?_; rw [S2.out]; rintro e w7 ⟨rfl, hb7⟩; have HB7 := Lib.hid (below_more HB6.out hb7); clear hb7 hq)
                        | (go_at_call 15; have hq := HB6.out; have hn6 := below_new w6 (.cells (zR r) 33); refine (Held_calls _ (HL6.out.stay hn6) ((HI.out.stay HB6.out).stay hn6) ((HO.out.stay HB6.out).stay hn6) (sl_zr HBD.out (Blk.new w6 _ _ _)) oneL_ok).mono ?_; rw [S2.out]; rintro e w7 ⟨rfl, hb7⟩; have HB7 := Lib.hid (below_more (below_more HB6.out hn6) hb7); clear hb7 hn6 hq)
                        | (go_at_call 9; (with_reducible refine (atm_l w7 (HO.out.stay HB7.out)).mono ?_); rw [S3.out]; rintro e w9 ⟨rfl, hb9⟩; have HB9 := Lib.hid (below_more HB7.out hb9); clear hb9)
                        | (go_at_call 9; (with_reducible refine (atm_r w7 (HO.out.stay HB7.out)).mono ?_); rw [S3.out]; rintro e w9 ⟨rfl, hb9⟩; have HB9 := Lib.hid (below_more HB7.out hb9); clear hb9)
                        | (go_at_call 12; refine (known_calls _).mono ?_; rintro e wa ⟨rfl, hba⟩; have HBA := Lib.hid (below_more HB9.out hba); clear hba)
                        | fail)
                      refine hK.out _ _ (by (first | exact KEEP.out _ HBA.out | exact KEEP.out _ HB9.out | exact KEEP.out _ (HB7.out.alloc HB7.out.size _) | exact KEEP.out _ ((HB7.out.alloc HB7.out.size _).alloc (HB7.out.alloc HB7.out.size _).size _) | exact KEEP.out _ HB7.out | exact KEEP.out _ (HB6.out.alloc HB6.out.size _) | exact KEEP.out _ HB6.out | exact KEEP.out _ (HB5.out.alloc HB5.out.size _) | exact KEEP.out _ HB5.out | exact KEEP.out _ HB4.out)) (fun hHeld => ?_)
                      clear hK K
                      (try simp only [Act.put, List.setIfInBounds_toArray, List.set_cons_zero, List.set_cons_succ])
                      refine wpAnyH_take (i := 28) (oi := { dst := some 104, op := Op.move (Operand.tmp 103), type := 4, pos := "law.go:144", after := #[{ on := 27, ground := Ground.data }, { on := 25, ground := Ground.chain }, { on := 20, ground := Ground.guard }], guard := some (20, true) }) (v := ?_) rfl (by kernel_rfl) (by kernel_rfl) (by kernel_rfl) (fun _ _ _ h => h) (Or.inl ⟨by rfl, ?_⟩) (by assumption) ?_
                      rotate_left
                      · intro w hSw; (try dsimp only at hSw); go_simp; (try (with_reducible rfl))
                      (try simp only [Act.put, List.setIfInBounds_toArray, List.set_cons_zero, List.set_cons_succ])
                      refine wpAnyH_take (i := 29) (oi := { dst := some 105, op := Op.move (Operand.tmp 3), type := 3, pos := "law.go:144", after := #[{ on := 28, ground := Ground.guard }], guard := some (28, true) }) (v := ?_) rfl (by kernel_rfl) (by kernel_rfl) (by kernel_rfl) (fun _ _ _ h => h) (Or.inl ⟨by rfl, ?_⟩) (by assumption) ?_
                      rotate_left
                      · intro w hSw; (try dsimp only at hSw); go_simp; (try (with_reducible rfl))
                      (try simp only [Act.put, List.setIfInBounds_toArray, List.set_cons_zero, List.set_cons_succ])
                      refine wpAnyH_take (i := 30) (oi := { dst := some 106, op := Op.binOp BinOp.eql 3 (Operand.tmp 105) (Operand.const (Value.int IntKind.i64 2)) 3, type := 4, pos := "law.go:144", after := #[{ on := 29, ground := Ground.data }, { on := 28, ground := Ground.guard }], guard := some (28, true) }) (v := ?_) rfl (by kernel_rfl) (by kernel_rfl) (by kernel_rfl) (fun _ _ _ h => h) (Or.inl ⟨by rfl, ?_⟩) (by assumption) ?_
                      rotate_left
                      · intro w hSw; (try dsimp only at hSw); go_simp; (try (with_reducible rfl))
                      (try simp only [Act.put, List.setIfInBounds_toArray, List.set_cons_zero, List.set_cons_succ])
                      refine wpAnyH_take (i := 31) (oi := { dst := some 107, op := Op.pick (Operand.tmp 104) (Operand.tmp 106) (Operand.const (Value.bool false)), type := 4, pos := "law.go:144", after := #[{ on := 28, ground := Ground.data }, { on := 30, ground := Ground.data }, { on := 20, ground := Ground.guard }], guard := some (20, true) }) (v := ?_) rfl (by kernel_rfl) (by kernel_rfl) (by kernel_rfl) (fun _ _ _ h => h) (Or.inl ⟨by rfl, ?_⟩) (by assumption) ?_
                      rotate_left
                      · intro w hSw; (try dsimp only at hSw); go_simp; (try (with_reducible rfl))
                      (try simp only [Act.put, List.setIfInBounds_toArray, List.set_cons_zero, List.set_cons_succ])
                      refine wpAnyH_take (i := 32) (oi := { dst := some 108, op := Op.binOp BinOp.eql 4 (Operand.tmp 101) (Operand.tmp 107) 4, type := 4, pos := "law.go:144", after := #[{ on := 25, ground := Ground.data }, { on := 31, ground := Ground.data }, { on := 20, ground := Ground.guard }], guard := some (20, true) }) (v := ?_) rfl (by kernel_rfl) (by kernel_rfl) (by kernel_rfl) (fun _ _ _ h => h) (Or.inl ⟨by rfl, ?_⟩) (by assumption) ?_
                      rotate_left
                      · intro w hSw; (try dsimp only at hSw); go_simp; (try (with_reducible rfl))
                      (try simp only [Act.put, List.setIfInBounds_toArray, List.set_cons_zero, List.set_cons_succ])
                      refine wpAnyH_take (i := 33) (oi := { dst := some 109, op := Op.pick (Operand.tmp 96) (Operand.tmp 108) (Operand.const (Value.bool false)), type := 4, pos := "law.go:144", after := #[{ on := 20, ground := Ground.data }, { on := 32, ground := Ground.data }], guard := none }) (v := ?_) rfl (by kernel_rfl) (by kernel_rfl) (by kernel_rfl) (fun _ _ _ h => h) (Or.inl ⟨by rfl, ?_⟩) (by assumption) ?_
                      rotate_left
                      · intro w hSw; (try dsimp only at hSw); go_simp; (try (with_reducible rfl))
                      (try simp only [Act.put, List.setIfInBounds_toArray, List.set_cons_zero, List.set_cons_succ])
                      refine wpAnyH_take (i := 34) (oi := { dst := some 110, op := Op.move (Operand.tmp 109), type := 4, pos := "law.go:144", after := #[{ on := 33, ground := Ground.data }, { on := 28, ground := Ground.chain }], guard := none }) (v := ?_) rfl (by kernel_rfl) (by kernel_rfl) (by kernel_rfl) (fun _ _ _ h => h) (Or.inl ⟨by rfl, ?_⟩) (by assumption) ?_
                      rotate_left
                      · intro w hSw; (try dsimp only at hSw); go_simp; (try (with_reducible rfl))
                      (try simp only [Act.put, List.setIfInBounds_toArray, List.set_cons_zero, List.set_cons_succ])
                      refine wpAnyH_ready (rs := [35]) (by kernel_rfl) (by simp) ?_
                      refine AllReadyH.cons (o := { dst := some 111, op := Op.call { callee := Callee.value (Operand.func 12), args := #[], argTypes := #[] }, type := 4, pos := "law.go:144", after := #[{ on := 34, ground := Ground.chain }, { on := 34, ground := Ground.guard }], guard := some (34, true) }) rfl (fun K hK => ?_) ?_
                      ·
                        go_simp
                        (first
                          | (go_at_call 14; have hq := HB5.out; refine (one_calls w5).mono ?_; rintro e w6 ⟨D1, D2, D3, D4, rfl, hl6, hb6⟩; have HL6 := Lib.hid hl6; have HB6 := Lib.hid (below_more HB5.out hb6); clear hb6 hl6 hq)
                          | (go_at_call 14; have hq := HB5.out; refine (one_calls (w5.alloc (.cells (zR r) 33))).mono ?_; rintro e w6 ⟨D1, D2, D3, D4, rfl, hl6, hb6⟩; have HL6 := Lib.hid hl6; have HR6 := Lib.hid ((sl_zr HBD.out (Blk.new w5 (zR r) 33 (0, 0))).stay hb6); have HB6 := Lib.hid (below_more (below_more HB5.out (below_new w5 _)) hb6); clear hb6 hl6 hq)
                          | (go_at_call 14; refine (one_calls _).mono ?_; rintro e w4 ⟨C1, C2, C3, C4, rfl, hl4, hb4⟩; have HL4 := Lib.hid hl4; have HB4 := Lib.hid (below_more HD.out hb4); clear hb4 hl4)
                          | (go_at_call 13; refine (Safe_calls w4 HL4.out (HI.out.stay HB4.out) (HO.out.stay HB4.out) oneL_ok).mono ?_; rw [S1.out]; rintro e w5 ⟨rfl, hb5⟩; have HB5 := Lib.hid (below_more HB4.out hb5); clear hb5)
                          | (go_at_call 15; have hq := HR6.out; refine (Held_calls w6 HL6.out (HI.out.stay HB6.out) (HO.out.stay HB6.out) hq oneL_ok).mono ?_; rw [S2.out]; rintro e w7 ⟨rfl, hb7⟩; have HB7 := Lib.hid (below_more HB6.out hb7); clear hb7 hq)
                          | (go_at_call 15; have hq := HB6.out; have hn6 := below_new w6 (.cells (zR r) 33); refine (Held_calls _ (HL6.out.stay hn6) ((HI.out.stay HB6.out).stay hn6) ((HO.out.stay HB6.out).stay hn6) (sl_zr HBD.out (Blk.new w6 _ _ _)) oneL_ok).mono ?_; rw [S2.out]; rintro e w7 ⟨rfl, hb7⟩; have HB7 := Lib.hid (below_more (below_more HB6.out hn6) hb7); clear hb7 hn6 hq)
                          | (go_at_call 9; (with_reducible refine (atm_l w7 (HO.out.stay HB7.out)).mono ?_); rw [S3.out]; rintro e w9 ⟨rfl, hb9⟩; have HB9 := Lib.hid (below_more HB7.out hb9); clear hb9)
                          | (go_at_call 9; (with_reducible refine (atm_r w7 (HO.out.stay HB7.out)).mono ?_); rw [S3.out]; rintro e w9 ⟨rfl, hb9⟩; have HB9 := Lib.hid (below_more HB7.out hb9); clear hb9)
                          | (go_at_call 12; refine (known_calls _).mono ?_; rintro e wa ⟨rfl, hba⟩; have HBA := Lib.hid (below_more HB9.out hba); clear hba)
                          | fail)
                        refine hK.out _ _ (by (first | exact KEEP.out _ HBA.out | exact KEEP.out _ HB9.out | exact KEEP.out _ (HB7.out.alloc HB7.out.size _) | exact KEEP.out _ ((HB7.out.alloc HB7.out.size _).alloc (HB7.out.alloc HB7.out.size _).size _) | exact KEEP.out _ HB7.out | exact KEEP.out _ (HB6.out.alloc HB6.out.size _) | exact KEEP.out _ HB6.out | exact KEEP.out _ (HB5.out.alloc HB5.out.size _) | exact KEEP.out _ HB5.out | exact KEEP.out _ HB4.out)) (fun hHeld => ?_)
                        clear hK K
                        (try simp only [Act.put, List.setIfInBounds_toArray, List.set_cons_zero, List.set_cons_succ])
                        refine wpAnyH_take (i := 36) (oi := { dst := some 112, op := Op.pick (Operand.tmp 110) (Operand.tmp 111) (Operand.const (Value.bool false)), type := 4, pos := "law.go:144", after := #[{ on := 34, ground := Ground.data }, { on := 35, ground := Ground.data }], guard := none }) (v := ?_) rfl (by kernel_rfl) (by kernel_rfl) (by kernel_rfl) (fun _ _ _ h => h) (Or.inl ⟨by rfl, ?_⟩) (by assumption) ?_
                        rotate_left
                        · intro w hSw; (try dsimp only at hSw); go_simp; (try (with_reducible rfl))
                        (try simp only [Act.put, List.setIfInBounds_toArray, List.set_cons_zero, List.set_cons_succ])
                        refine wpAnyH_take (i := 37) (oi := { dst := some 10, op := Op.assign (Operand.tmp 112), type := 4, pos := "law.go:144", after := #[{ on := 36, ground := Ground.data }, { on := 35, ground := Ground.chain }, { on := 0, ground := Ground.phase }, { on := 1, ground := Ground.phase }, { on := 2, ground := Ground.phase }, { on := 3, ground := Ground.phase }, { on := 4, ground := Ground.phase }, { on := 5, ground := Ground.phase }, { on := 6, ground := Ground.phase }, { on := 7, ground := Ground.phase }, { on := 8, ground := Ground.phase }, { on := 9, ground := Ground.phase }, { on := 10, ground := Ground.phase }, { on := 11, ground := Ground.phase }, { on := 12, ground := Ground.phase }, { on := 13, ground := Ground.phase }, { on := 14, ground := Ground.phase }, { on := 15, ground := Ground.phase }, { on := 16, ground := Ground.phase }, { on := 17, ground := Ground.phase }, { on := 18, ground := Ground.phase }, { on := 19, ground := Ground.phase }, { on := 20, ground := Ground.phase }, { on := 21, ground := Ground.phase }, { on := 22, ground := Ground.phase }, { on := 23, ground := Ground.phase }, { on := 24, ground := Ground.phase }, { on := 25, ground := Ground.phase }, { on := 26, ground := Ground.phase }, { on := 27, ground := Ground.phase }, { on := 28, ground := Ground.phase }, { on := 29, ground := Ground.phase }, { on := 30, ground := Ground.phase }, { on := 31, ground := Ground.phase }, { on := 32, ground := Ground.phase }, { on := 33, ground := Ground.phase }, { on := 34, ground := Ground.phase }, { on := 35, ground := Ground.phase }, { on := 36, ground := Ground.phase }], guard := none }) (v := ?_) rfl (by kernel_rfl) (by kernel_rfl) (by kernel_rfl) (fun _ _ _ h => h) (Or.inl ⟨by rfl, ?_⟩) (by assumption) ?_
                        rotate_left
                        · intro w hSw; (try dsimp only at hSw); go_simp; (try (with_reducible rfl))
                        (try simp only [Act.put, List.setIfInBounds_toArray, List.set_cons_zero, List.set_cons_succ])
                        refine wpAnyH_done (by kernel_rfl) ?_ _
                        go_wp2_with fail
                        go_ret
                        exact ⟨rfl, below_more HB.out HBA.out⟩
                      exact AllReadyH.nil
                    exact AllReadyH.nil
                  exact AllReadyH.nil
                refine AllReadyH.cons (o := { dst := some 99, op := Op.makeSlice 23 (Operand.const (Value.int IntKind.i64 2)) (Operand.const (Value.int IntKind.i64 2)), type := 23, pos := "law.go:144", after := #[{ on := 20, ground := Ground.guard }], guard := some (20, true) }) rfl (fun K hK => ?_) ?_
                ·
                  go_simp
                  refine hK.out _ _ (by (first | exact KEEP.out _ HBA.out | exact KEEP.out _ HB9.out | exact KEEP.out _ (HB7.out.alloc HB7.out.size _) | exact KEEP.out _ ((HB7.out.alloc HB7.out.size _).alloc (HB7.out.alloc HB7.out.size _).size _) | exact KEEP.out _ HB7.out | exact KEEP.out _ (HB6.out.alloc HB6.out.size _) | exact KEEP.out _ HB6.out | exact KEEP.out _ (HB5.out.alloc HB5.out.size _) | exact KEEP.out _ HB5.out | exact KEEP.out _ HB4.out)) (fun hHeld => ?_)
                  clear hK K
                  (try simp only [Act.put, List.setIfInBounds_toArray, List.set_cons_zero, List.set_cons_succ])
                  refine wpAnyH_ready (rs := [22]) (by kernel_rfl) (by simp) ?_
                  refine AllReadyH.cons (o := { dst := some 98, op := Op.makeSlice 22 (Operand.const (Value.int IntKind.i64 1)) (Operand.const (Value.int IntKind.i64 1)), type := 22, pos := "law.go:144", after := #[{ on := 20, ground := Ground.guard }], guard := some (20, true) }) rfl (fun K hK => ?_) ?_
                  ·
                    go_simp
                    refine hK.out _ _ (by (first | exact KEEP.out _ HBA.out | exact KEEP.out _ HB9.out | exact KEEP.out _ (HB7.out.alloc HB7.out.size _) | exact KEEP.out _ ((HB7.out.alloc HB7.out.size _).alloc (HB7.out.alloc HB7.out.size _).size _) | exact KEEP.out _ HB7.out | exact KEEP.out _ (HB6.out.alloc HB6.out.size _) | exact KEEP.out _ HB6.out | exact KEEP.out _ (HB5.out.alloc HB5.out.size _) | exact KEEP.out _ HB5.out | exact KEEP.out _ HB4.out)) (fun hHeld => ?_)
                    clear hK K
                    (try simp only [Act.put, List.setIfInBounds_toArray, List.set_cons_zero, List.set_cons_succ])
                    refine wpAnyH_take (i := 24) (oi := { dst := some 100, op := Op.build 25 #[(0, Operand.tmp 98), (1, Operand.tmp 99)], type := 25, pos := "law.go:144", after := #[{ on := 22, ground := Ground.data }, { on := 23, ground := Ground.data }, { on := 20, ground := Ground.guard }], guard := some (20, true) }) (v := ?_) rfl (by kernel_rfl) (by kernel_rfl) (by kernel_rfl) (fun _ _ _ h => h) (Or.inl ⟨by rfl, ?_⟩) (by assumption) ?_
                    rotate_left
                    · intro w hSw; (try dsimp only at hSw); go_simp; (try (with_reducible rfl))
                    (try simp only [Act.put, List.setIfInBounds_toArray, List.set_cons_zero, List.set_cons_succ])
                    refine wpAnyH_ready (rs := [25]) (by kernel_rfl) (by simp) ?_
                    refine AllReadyH.cons (o := { dst := some 101, op := Op.call { callee := Callee.value (Operand.func 9), args := #[Operand.tmp 97, Operand.tmp 100], argTypes := #[25, 25] }, type := 4, pos := "law.go:144", after := #[{ on := 21, ground := Ground.data }, { on := 24, ground := Ground.data }, { on := 20, ground := Ground.chain }, { on := 20, ground := Ground.guard }], guard := some (20, true) }) rfl (fun K hK => ?_) ?_
                    ·
                      go_simp
                      (first
                        | (go_at_call 14; have hq := HB5.out; refine (one_calls w5).mono ?_; rintro e w6 ⟨D1, D2, D3, D4, rfl, hl6, hb6⟩; have HL6 := Lib.hid hl6; have HB6 := Lib.hid (below_more HB5.out hb6); clear hb6 hl6 hq)
                        | (go_at_call 14; have hq := HB5.out; refine (one_calls (w5.alloc (.cells (zR r) 33))).mono ?_; rintro e w6 ⟨D1, D2, D3, D4, rfl, hl6, hb6⟩; have HL6 := Lib.hid hl6; have HR6 := Lib.hid ((sl_zr HBD.out (Blk.new w5 (zR r) 33 (0, 0))).stay hb6); have HB6 := Lib.hid (below_more (below_more HB5.out (below_new w5 _)) hb6); clear hb6 hl6 hq)
                        | (go_at_call 14; refine (one_calls _).mono ?_; rintro e w4 ⟨C1, C2, C3, C4, rfl, hl4, hb4⟩; have HL4 := Lib.hid hl4; have HB4 := Lib.hid (below_more HD.out hb4); clear hb4 hl4)
                        | (go_at_call 13; refine (Safe_calls w4 HL4.out (HI.out.stay HB4.out) (HO.out.stay HB4.out) oneL_ok).mono ?_; rw [S1.out]; rintro e w5 ⟨rfl, hb5⟩; have HB5 := Lib.hid (below_more HB4.out hb5); clear hb5)
                        | (go_at_call 15; have hq := HR6.out; refine (Held_calls w6 HL6.out (HI.out.stay HB6.out) (HO.out.stay HB6.out) hq oneL_ok).mono ?_; rw [S2.out]; rintro e w7 ⟨rfl, hb7⟩; have HB7 := Lib.hid (below_more HB6.out hb7); clear hb7 hq)
                        | (go_at_call 15; have hq := HB6.out; have hn6 := below_new w6 (.cells (zR r) 33); refine (Held_calls _ (HL6.out.stay hn6) ((HI.out.stay HB6.out).stay hn6) ((HO.out.stay HB6.out).stay hn6) (sl_zr HBD.out (Blk.new w6 _ _ _)) oneL_ok).mono ?_; rw [S2.out]; rintro e w7 ⟨rfl, hb7⟩; have HB7 := Lib.hid (below_more (below_more HB6.out hn6) hb7); clear hb7 hn6 hq)
                        | (go_at_call 9; (with_reducible refine (atm_l w7 (HO.out.stay HB7.out)).mono ?_); rw [S3.out]; rintro e w9 ⟨rfl, hb9⟩; have HB9 := Lib.hid (below_more HB7.out hb9); clear hb9)
                        | (go_at_call 9; (with_reducible refine (atm_r w7 (HO.out.stay HB7.out)).mono ?_); rw [S3.out]; rintro e w9 ⟨rfl, hb9⟩; have HB9 := Lib.hid (below_more HB7.out hb9); clear hb9)
                        | (go_at_call 12; refine (known_calls _).mono ?_; rintro e wa ⟨rfl, hba⟩; have HBA := Lib.hid (below_more HB9.out hba); clear hba)
                        | fail)
                      refine hK.out _ _ (by (first | exact KEEP.out _ HBA.out | exact KEEP.out _ HB9.out | exact KEEP.out _ (HB7.out.alloc HB7.out.size _) | exact KEEP.out _ ((HB7.out.alloc HB7.out.size _).alloc (HB7.out.alloc HB7.out.size _).size _) | exact KEEP.out _ HB7.out | exact KEEP.out _ (HB6.out.alloc HB6.out.size _) | exact KEEP.out _ HB6.out | exact KEEP.out _ (HB5.out.alloc HB5.out.size _) | exact KEEP.out _ HB5.out | exact KEEP.out _ HB4.out)) (fun hHeld => ?_)
                      clear hK K
                      (try simp only [Act.put, List.setIfInBounds_toArray, List.set_cons_zero, List.set_cons_succ])
                      refine wpAnyH_take (i := 28) (oi := { dst := some 104, op := Op.move (Operand.tmp 103), type := 4, pos := "law.go:144", after := #[{ on := 27, ground := Ground.data }, { on := 25, ground := Ground.chain }, { on := 20, ground := Ground.guard }], guard := some (20, true) }) (v := ?_) rfl (by kernel_rfl) (by kernel_rfl) (by kernel_rfl) (fun _ _ _ h => h) (Or.inl ⟨by rfl, ?_⟩) (by assumption) ?_
                      rotate_left
                      · intro w hSw; (try dsimp only at hSw); go_simp; (try (with_reducible rfl))
                      (try simp only [Act.put, List.setIfInBounds_toArray, List.set_cons_zero, List.set_cons_succ])
                      refine wpAnyH_take (i := 29) (oi := { dst := some 105, op := Op.move (Operand.tmp 3), type := 3, pos := "law.go:144", after := #[{ on := 28, ground := Ground.guard }], guard := some (28, true) }) (v := ?_) rfl (by kernel_rfl) (by kernel_rfl) (by kernel_rfl) (fun _ _ _ h => h) (Or.inl ⟨by rfl, ?_⟩) (by assumption) ?_
                      rotate_left
                      · intro w hSw; (try dsimp only at hSw); go_simp; (try (with_reducible rfl))
                      (try simp only [Act.put, List.setIfInBounds_toArray, List.set_cons_zero, List.set_cons_succ])
                      refine wpAnyH_take (i := 30) (oi := { dst := some 106, op := Op.binOp BinOp.eql 3 (Operand.tmp 105) (Operand.const (Value.int IntKind.i64 2)) 3, type := 4, pos := "law.go:144", after := #[{ on := 29, ground := Ground.data }, { on := 28, ground := Ground.guard }], guard := some (28, true) }) (v := ?_) rfl (by kernel_rfl) (by kernel_rfl) (by kernel_rfl) (fun _ _ _ h => h) (Or.inl ⟨by rfl, ?_⟩) (by assumption) ?_
                      rotate_left
                      · intro w hSw; (try dsimp only at hSw); go_simp; (try (with_reducible rfl))
                      (try simp only [Act.put, List.setIfInBounds_toArray, List.set_cons_zero, List.set_cons_succ])
                      refine wpAnyH_take (i := 31) (oi := { dst := some 107, op := Op.pick (Operand.tmp 104) (Operand.tmp 106) (Operand.const (Value.bool false)), type := 4, pos := "law.go:144", after := #[{ on := 28, ground := Ground.data }, { on := 30, ground := Ground.data }, { on := 20, ground := Ground.guard }], guard := some (20, true) }) (v := ?_) rfl (by kernel_rfl) (by kernel_rfl) (by kernel_rfl) (fun _ _ _ h => h) (Or.inl ⟨by rfl, ?_⟩) (by assumption) ?_
                      rotate_left
                      · intro w hSw; (try dsimp only at hSw); go_simp; (try (with_reducible rfl))
                      (try simp only [Act.put, List.setIfInBounds_toArray, List.set_cons_zero, List.set_cons_succ])
                      refine wpAnyH_take (i := 32) (oi := { dst := some 108, op := Op.binOp BinOp.eql 4 (Operand.tmp 101) (Operand.tmp 107) 4, type := 4, pos := "law.go:144", after := #[{ on := 25, ground := Ground.data }, { on := 31, ground := Ground.data }, { on := 20, ground := Ground.guard }], guard := some (20, true) }) (v := ?_) rfl (by kernel_rfl) (by kernel_rfl) (by kernel_rfl) (fun _ _ _ h => h) (Or.inl ⟨by rfl, ?_⟩) (by assumption) ?_
                      rotate_left
                      · intro w hSw; (try dsimp only at hSw); go_simp; (try (with_reducible rfl))
                      (try simp only [Act.put, List.setIfInBounds_toArray, List.set_cons_zero, List.set_cons_succ])
                      refine wpAnyH_take (i := 33) (oi := { dst := some 109, op := Op.pick (Operand.tmp 96) (Operand.tmp 108) (Operand.const (Value.bool false)), type := 4, pos := "law.go:144", after := #[{ on := 20, ground := Ground.data }, { on := 32, ground := Ground.data }], guard := none }) (v := ?_) rfl (by kernel_rfl) (by kernel_rfl) (by kernel_rfl) (fun _ _ _ h => h) (Or.inl ⟨by rfl, ?_⟩) (by assumption) ?_
                      rotate_left
                      · intro w hSw; (try dsimp only at hSw); go_simp; (try (with_reducible rfl))
                      (try simp only [Act.put, List.setIfInBounds_toArray, List.set_cons_zero, List.set_cons_succ])
                      refine wpAnyH_take (i := 34) (oi := { dst := some 110, op := Op.move (Operand.tmp 109), type := 4, pos := "law.go:144", after := #[{ on := 33, ground := Ground.data }, { on := 28, ground := Ground.chain }], guard := none }) (v := ?_) rfl (by kernel_rfl) (by kernel_rfl) (by kernel_rfl) (fun _ _ _ h => h) (Or.inl ⟨by rfl, ?_⟩) (by assumption) ?_
                      rotate_left
                      · intro w hSw; (try dsimp only at hSw); go_simp; (try (with_reducible rfl))
                      (try simp only [Act.put, List.setIfInBounds_toArray, List.set_cons_zero, List.set_cons_succ])
                      refine wpAnyH_ready (rs := [35]) (by kernel_rfl) (by simp) ?_
                      refine AllReadyH.cons (o := { dst := some 111, op := Op.call { callee := Callee.value (Operand.func 12), args := #[], argTypes := #[] }, type := 4, pos := "law.go:144", after := #[{ on := 34, ground := Ground.chain }, { on := 34, ground := Ground.guard }], guard := some (34, true) }) rfl (fun K hK => ?_) ?_
                      ·
                        go_simp
                        (first
                          | (go_at_call 14; have hq := HB5.out; refine (one_calls w5).mono ?_; rintro e w6 ⟨D1, D2, D3, D4, rfl, hl6, hb6⟩; have HL6 := Lib.hid hl6; have HB6 := Lib.hid (below_more HB5.out hb6); clear hb6 hl6 hq)
                          | (go_at_call 14; have hq := HB5.out; refine (one_calls (w5.alloc (.cells (zR r) 33))).mono ?_; rintro e w6 ⟨D1, D2, D3, D4, rfl, hl6, hb6⟩; have HL6 := Lib.hid hl6; have HR6 := Lib.hid ((sl_zr HBD.out (Blk.new w5 (zR r) 33 (0, 0))).stay hb6); have HB6 := Lib.hid (below_more (below_more HB5.out (below_new w5 _)) hb6); clear hb6 hl6 hq)
                          | (go_at_call 14; refine (one_calls _).mono ?_; rintro e w4 ⟨C1, C2, C3, C4, rfl, hl4, hb4⟩; have HL4 := Lib.hid hl4; have HB4 := Lib.hid (below_more HD.out hb4); clear hb4 hl4)
                          | (go_at_call 13; refine (Safe_calls w4 HL4.out (HI.out.stay HB4.out) (HO.out.stay HB4.out) oneL_ok).mono ?_; rw [S1.out]; rintro e w5 ⟨rfl, hb5⟩; have HB5 := Lib.hid (below_more HB4.out hb5); clear hb5)
                          | (go_at_call 15; have hq := HR6.out; refine (Held_calls w6 HL6.out (HI.out.stay HB6.out) (HO.out.stay HB6.out) hq oneL_ok).mono ?_; rw [S2.out]; rintro e w7 ⟨rfl, hb7⟩; have HB7 := Lib.hid (below_more HB6.out hb7); clear hb7 hq)
                          | (go_at_call 15; have hq := HB6.out; have hn6 := below_new w6 (.cells (zR r) 33); refine (Held_calls _ (HL6.out.stay hn6) ((HI.out.stay HB6.out).stay hn6) ((HO.out.stay HB6.out).stay hn6) (sl_zr HBD.out (Blk.new w6 _ _ _)) oneL_ok).mono ?_; rw [S2.out]; rintro e w7 ⟨rfl, hb7⟩; have HB7 := Lib.hid (below_more (below_more HB6.out hn6) hb7); clear hb7 hn6 hq)
                          | (go_at_call 9; (with_reducible refine (atm_l w7 (HO.out.stay HB7.out)).mono ?_); rw [S3.out]; rintro e w9 ⟨rfl, hb9⟩; have HB9 := Lib.hid (below_more HB7.out hb9); clear hb9)
                          | (go_at_call 9; (with_reducible refine (atm_r w7 (HO.out.stay HB7.out)).mono ?_); rw [S3.out]; rintro e w9 ⟨rfl, hb9⟩; have HB9 := Lib.hid (below_more HB7.out hb9); clear hb9)
                          | (go_at_call 12; refine (known_calls _).mono ?_; rintro e wa ⟨rfl, hba⟩; have HBA := Lib.hid (below_more HB9.out hba); clear hba)
                          | fail)
                        refine hK.out _ _ (by (first | exact KEEP.out _ HBA.out | exact KEEP.out _ HB9.out | exact KEEP.out _ (HB7.out.alloc HB7.out.size _) | exact KEEP.out _ ((HB7.out.alloc HB7.out.size _).alloc (HB7.out.alloc HB7.out.size _).size _) | exact KEEP.out _ HB7.out | exact KEEP.out _ (HB6.out.alloc HB6.out.size _) | exact KEEP.out _ HB6.out | exact KEEP.out _ (HB5.out.alloc HB5.out.size _) | exact KEEP.out _ HB5.out | exact KEEP.out _ HB4.out)) (fun hHeld => ?_)
                        clear hK K
                        (try simp only [Act.put, List.setIfInBounds_toArray, List.set_cons_zero, List.set_cons_succ])
                        refine wpAnyH_take (i := 36) (oi := { dst := some 112, op := Op.pick (Operand.tmp 110) (Operand.tmp 111) (Operand.const (Value.bool false)), type := 4, pos := "law.go:144", after := #[{ on := 34, ground := Ground.data }, { on := 35, ground := Ground.data }], guard := none }) (v := ?_) rfl (by kernel_rfl) (by kernel_rfl) (by kernel_rfl) (fun _ _ _ h => h) (Or.inl ⟨by rfl, ?_⟩) (by assumption) ?_
                        rotate_left
                        · intro w hSw; (try dsimp only at hSw); go_simp; (try (with_reducible rfl))
                        (try simp only [Act.put, List.setIfInBounds_toArray, List.set_cons_zero, List.set_cons_succ])
                        refine wpAnyH_take (i := 37) (oi := { dst := some 10, op := Op.assign (Operand.tmp 112), type := 4, pos := "law.go:144", after := #[{ on := 36, ground := Ground.data }, { on := 35, ground := Ground.chain }, { on := 0, ground := Ground.phase }, { on := 1, ground := Ground.phase }, { on := 2, ground := Ground.phase }, { on := 3, ground := Ground.phase }, { on := 4, ground := Ground.phase }, { on := 5, ground := Ground.phase }, { on := 6, ground := Ground.phase }, { on := 7, ground := Ground.phase }, { on := 8, ground := Ground.phase }, { on := 9, ground := Ground.phase }, { on := 10, ground := Ground.phase }, { on := 11, ground := Ground.phase }, { on := 12, ground := Ground.phase }, { on := 13, ground := Ground.phase }, { on := 14, ground := Ground.phase }, { on := 15, ground := Ground.phase }, { on := 16, ground := Ground.phase }, { on := 17, ground := Ground.phase }, { on := 18, ground := Ground.phase }, { on := 19, ground := Ground.phase }, { on := 20, ground := Ground.phase }, { on := 21, ground := Ground.phase }, { on := 22, ground := Ground.phase }, { on := 23, ground := Ground.phase }, { on := 24, ground := Ground.phase }, { on := 25, ground := Ground.phase }, { on := 26, ground := Ground.phase }, { on := 27, ground := Ground.phase }, { on := 28, ground := Ground.phase }, { on := 29, ground := Ground.phase }, { on := 30, ground := Ground.phase }, { on := 31, ground := Ground.phase }, { on := 32, ground := Ground.phase }, { on := 33, ground := Ground.phase }, { on := 34, ground := Ground.phase }, { on := 35, ground := Ground.phase }, { on := 36, ground := Ground.phase }], guard := none }) (v := ?_) rfl (by kernel_rfl) (by kernel_rfl) (by kernel_rfl) (fun _ _ _ h => h) (Or.inl ⟨by rfl, ?_⟩) (by assumption) ?_
                        rotate_left
                        · intro w hSw; (try dsimp only at hSw); go_simp; (try (with_reducible rfl))
                        (try simp only [Act.put, List.setIfInBounds_toArray, List.set_cons_zero, List.set_cons_succ])
                        refine wpAnyH_done (by kernel_rfl) ?_ _
                        go_wp2_with fail
                        go_ret
                        exact ⟨rfl, below_more HB.out HBA.out⟩
                      exact AllReadyH.nil
                    exact AllReadyH.nil
                  exact AllReadyH.nil
                exact AllReadyH.nil
              exact AllReadyH.nil
            exact AllReadyH.nil
          refine AllReadyH.cons (o := { dst := some 87, op := Op.makeSlice 34 (Operand.tmp 86) (Operand.tmp 86), type := 34, pos := "law.go:144", after := #[{ on := 10, ground := Ground.data }, { on := 10, ground := Ground.data }, { on := 6, ground := Ground.guard }], guard := some (6, true) }) rfl (fun K hK => ?_) ?_
          ·
            go_simp
            refine hK.out _ _ (by (first | exact KEEP.out _ HBA.out | exact KEEP.out _ HB9.out | exact KEEP.out _ (HB7.out.alloc HB7.out.size _) | exact KEEP.out _ ((HB7.out.alloc HB7.out.size _).alloc (HB7.out.alloc HB7.out.size _).size _) | exact KEEP.out _ HB7.out | exact KEEP.out _ (HB6.out.alloc HB6.out.size _) | exact KEEP.out _ HB6.out | exact KEEP.out _ (HB5.out.alloc HB5.out.size _) | exact KEEP.out _ HB5.out | exact KEEP.out _ HB4.out)) (fun hHeld => ?_)
            clear hK K
            (try simp only [Act.put, List.setIfInBounds_toArray, List.set_cons_zero, List.set_cons_succ])
            refine wpAnyH_ready (rs := [7]) (by kernel_rfl) (by simp) ?_
            refine AllReadyH.cons (o := { dst := some 83, op := Op.call { callee := Callee.value (Operand.func 14), args := #[], argTypes := #[] }, type := 40, pos := "law.go:144", after := #[{ on := 6, ground := Ground.chain }, { on := 6, ground := Ground.guard }], guard := some (6, true) }) rfl (fun K hK => ?_) ?_
            ·
              go_simp
              (first
                | (go_at_call 14; have hq := HB5.out; refine (one_calls w5).mono ?_; rintro e w6 ⟨D1, D2, D3, D4, rfl, hl6, hb6⟩; have HL6 := Lib.hid hl6; have HB6 := Lib.hid (below_more HB5.out hb6); clear hb6 hl6 hq)
                | (go_at_call 14; have hq := HB5.out; refine (one_calls (w5.alloc (.cells (zR r) 33))).mono ?_; rintro e w6 ⟨D1, D2, D3, D4, rfl, hl6, hb6⟩; have HL6 := Lib.hid hl6; have HR6 := Lib.hid ((sl_zr HBD.out (Blk.new w5 (zR r) 33 (0, 0))).stay hb6); have HB6 := Lib.hid (below_more (below_more HB5.out (below_new w5 _)) hb6); clear hb6 hl6 hq)
                | (go_at_call 14; refine (one_calls _).mono ?_; rintro e w4 ⟨C1, C2, C3, C4, rfl, hl4, hb4⟩; have HL4 := Lib.hid hl4; have HB4 := Lib.hid (below_more HD.out hb4); clear hb4 hl4)
                | (go_at_call 13; refine (Safe_calls w4 HL4.out (HI.out.stay HB4.out) (HO.out.stay HB4.out) oneL_ok).mono ?_; rw [S1.out]; rintro e w5 ⟨rfl, hb5⟩; have HB5 := Lib.hid (below_more HB4.out hb5); clear hb5)
                | (go_at_call 15; have hq := HR6.out; refine (Held_calls w6 HL6.out (HI.out.stay HB6.out) (HO.out.stay HB6.out) hq oneL_ok).mono ?_; rw [S2.out]; rintro e w7 ⟨rfl, hb7⟩; have HB7 := Lib.hid (below_more HB6.out hb7); clear hb7 hq)
                | (go_at_call 15; have hq := HB6.out; have hn6 := below_new w6 (.cells (zR r) 33); refine (Held_calls _ (HL6.out.stay hn6) ((HI.out.stay HB6.out).stay hn6) ((HO.out.stay HB6.out).stay hn6) (sl_zr HBD.out (Blk.new w6 _ _ _)) oneL_ok).mono ?_; rw [S2.out]; rintro e w7 ⟨rfl, hb7⟩; have HB7 := Lib.hid (below_more (below_more HB6.out hn6) hb7); clear hb7 hn6 hq)
                | (go_at_call 9; (with_reducible refine (atm_l w7 (HO.out.stay HB7.out)).mono ?_); rw [S3.out]; rintro e w9 ⟨rfl, hb9⟩; have HB9 := Lib.hid (below_more HB7.out hb9); clear hb9)
                | (go_at_call 9; (with_reducible refine (atm_r w7 (HO.out.stay HB7.out)).mono ?_); rw [S3.out]; rintro e w9 ⟨rfl, hb9⟩; have HB9 := Lib.hid (below_more HB7.out hb9); clear hb9)
                | (go_at_call 12; refine (known_calls _).mono ?_; rintro e wa ⟨rfl, hba⟩; have HBA := Lib.hid (below_more HB9.out hba); clear hba)
                | fail)
              refine hK.out _ _ (by (first | exact KEEP.out _ HBA.out | exact KEEP.out _ HB9.out | exact KEEP.out _ (HB7.out.alloc HB7.out.size _) | exact KEEP.out _ ((HB7.out.alloc HB7.out.size _).alloc (HB7.out.alloc HB7.out.size _).size _) | exact KEEP.out _ HB7.out | exact KEEP.out _ (HB6.out.alloc HB6.out.size _) | exact KEEP.out _ HB6.out | exact KEEP.out _ (HB5.out.alloc HB5.out.size _) | exact KEEP.out _ HB5.out | exact KEEP.out _ HB4.out)) (fun hHeld => ?_)
              clear hK K
              (try simp only [Act.put, List.setIfInBounds_toArray, List.set_cons_zero, List.set_cons_succ])
              refine wpAnyH_ready (rs := [12]) (by kernel_rfl) (by simp) ?_
              refine AllReadyH.cons (o := { dst := some 88, op := Op.call { callee := Callee.value (Operand.func 15), args := #[Operand.tmp 83, Operand.tmp 84, Operand.tmp 85, Operand.tmp 87], argTypes := #[40, 28, 25, 34] }, type := 4, pos := "law.go:144", after := #[{ on := 7, ground := Ground.data }, { on := 8, ground := Ground.data }, { on := 9, ground := Ground.data }, { on := 11, ground := Ground.data }, { on := 7, ground := Ground.chain }, { on := 6, ground := Ground.guard }], guard := some (6, true) }) rfl (fun K hK => ?_) ?_
              ·
                go_simp
                (first
                  | (go_at_call 14; have hq := HB5.out; refine (one_calls w5).mono ?_; rintro e w6 ⟨D1, D2, D3, D4, rfl, hl6, hb6⟩; have HL6 := Lib.hid hl6; have HB6 := Lib.hid (below_more HB5.out hb6); clear hb6 hl6 hq)
                  | (go_at_call 14; have hq := HB5.out; refine (one_calls (w5.alloc (.cells (zR r) 33))).mono ?_; rintro e w6 ⟨D1, D2, D3, D4, rfl, hl6, hb6⟩; have HL6 := Lib.hid hl6; have HR6 := Lib.hid ((sl_zr HBD.out (Blk.new w5 (zR r) 33 (0, 0))).stay hb6); have HB6 := Lib.hid (below_more (below_more HB5.out (below_new w5 _)) hb6); clear hb6 hl6 hq)
                  | (go_at_call 14; refine (one_calls _).mono ?_; rintro e w4 ⟨C1, C2, C3, C4, rfl, hl4, hb4⟩; have HL4 := Lib.hid hl4; have HB4 := Lib.hid (below_more HD.out hb4); clear hb4 hl4)
                  | (go_at_call 13; refine (Safe_calls w4 HL4.out (HI.out.stay HB4.out) (HO.out.stay HB4.out) oneL_ok).mono ?_; rw [S1.out]; rintro e w5 ⟨rfl, hb5⟩; have HB5 := Lib.hid (below_more HB4.out hb5); clear hb5)
                  | (go_at_call 15; have hq := HR6.out; refine (Held_calls w6 HL6.out (HI.out.stay HB6.out) (HO.out.stay HB6.out) hq oneL_ok).mono ?_; rw [S2.out]; rintro e w7 ⟨rfl, hb7⟩; have HB7 := Lib.hid (below_more HB6.out hb7); clear hb7 hq)
                  | (go_at_call 15; have hq := HB6.out; have hn6 := below_new w6 (.cells (zR r) 33); refine (Held_calls _ (HL6.out.stay hn6) ((HI.out.stay HB6.out).stay hn6) ((HO.out.stay HB6.out).stay hn6) (sl_zr HBD.out (Blk.new w6 _ _ _)) oneL_ok).mono ?_; rw [S2.out]; rintro e w7 ⟨rfl, hb7⟩; have HB7 := Lib.hid (below_more (below_more HB6.out hn6) hb7); clear hb7 hn6 hq)
                  | (go_at_call 9; (with_reducible refine (atm_l w7 (HO.out.stay HB7.out)).mono ?_); rw [S3.out]; rintro e w9 ⟨rfl, hb9⟩; have HB9 := Lib.hid (below_more HB7.out hb9); clear hb9)
                  | (go_at_call 9; (with_reducible refine (atm_r w7 (HO.out.stay HB7.out)).mono ?_); rw [S3.out]; rintro e w9 ⟨rfl, hb9⟩; have HB9 := Lib.hid (below_more HB7.out hb9); clear hb9)
                  | (go_at_call 12; refine (known_calls _).mono ?_; rintro e wa ⟨rfl, hba⟩; have HBA := Lib.hid (below_more HB9.out hba); clear hba)
                  | fail)
                refine hK.out _ _ (by (first | exact KEEP.out _ HBA.out | exact KEEP.out _ HB9.out | exact KEEP.out _ (HB7.out.alloc HB7.out.size _) | exact KEEP.out _ ((HB7.out.alloc HB7.out.size _).alloc (HB7.out.alloc HB7.out.size _).size _) | exact KEEP.out _ HB7.out | exact KEEP.out _ (HB6.out.alloc HB6.out.size _) | exact KEEP.out _ HB6.out | exact KEEP.out _ (HB5.out.alloc HB5.out.size _) | exact KEEP.out _ HB5.out | exact KEEP.out _ HB4.out)) (fun hHeld => ?_)
                clear hK K
                (try simp only [Act.put, List.setIfInBounds_toArray, List.set_cons_zero, List.set_cons_succ])
                refine wpAnyH_take (i := 14) (oi := { dst := some 90, op := Op.move (Operand.tmp 89), type := 4, pos := "law.go:144", after := #[{ on := 13, ground := Ground.data }, { on := 12, ground := Ground.chain }, { on := 6, ground := Ground.guard }], guard := some (6, true) }) (v := ?_) rfl (by kernel_rfl) (by kernel_rfl) (by kernel_rfl) (fun _ _ _ h => h) (Or.inl ⟨by rfl, ?_⟩) (by assumption) ?_
                rotate_left
                · intro w hSw; (try dsimp only at hSw); go_simp; (try (with_reducible rfl))
                (try simp only [Act.put, List.setIfInBounds_toArray, List.set_cons_zero, List.set_cons_succ])
                refine wpAnyH_take (i := 15) (oi := { dst := some 91, op := Op.move (Operand.tmp 4), type := 3, pos := "law.go:144", after := #[{ on := 14, ground := Ground.guard }], guard := some (14, true) }) (v := undef) rfl (by kernel_rfl) (by kernel_rfl) (by kernel_rfl) (fun _ _ _ h => h) (Or.inr ⟨by rfl, rfl⟩) (by assumption) ?_
                (try simp only [Act.put, List.setIfInBounds_toArray, List.set_cons_zero, List.set_cons_succ])
                refine wpAnyH_take (i := 16) (oi := { dst := some 92, op := Op.binOp BinOp.eql 3 (Operand.tmp 91) (Operand.const (Value.int IntKind.i64 1)) 3, type := 4, pos := "law.go:144", after := #[{ on := 15, ground := Ground.data }, { on := 14, ground := Ground.guard }], guard := some (14, true) }) (v := undef) rfl (by kernel_rfl) (by kernel_rfl) (by kernel_rfl) (fun _ _ _ h => h) (Or.inr ⟨by rfl, rfl⟩) (by assumption) ?_
                (try simp only [Act.put, List.setIfInBounds_toArray, List.set_cons_zero, List.set_cons_succ])
                refine wpAnyH_take (i := 17) (oi := { dst := some 93, op := Op.pick (Operand.tmp 90) (Operand.tmp 92) (Operand.const (Value.bool false)), type := 4, pos := "law.go:144", after := #[{ on := 14, ground := Ground.data }, { on := 16, ground := Ground.data }, { on := 6, ground := Ground.guard }], guard := some (6, true) }) (v := ?_) rfl (by kernel_rfl) (by kernel_rfl) (by kernel_rfl) (fun _ _ _ h => h) (Or.inl ⟨by rfl, ?_⟩) (by assumption) ?_
                rotate_left
                · intro w hSw; (try dsimp only at hSw); go_simp; (try (with_reducible rfl))
                (try simp only [Act.put, List.setIfInBounds_toArray, List.set_cons_zero, List.set_cons_succ])
                refine wpAnyH_take (i := 18) (oi := { dst := some 94, op := Op.binOp BinOp.eql 4 (Operand.tmp 88) (Operand.tmp 93) 4, type := 4, pos := "law.go:144", after := #[{ on := 12, ground := Ground.data }, { on := 17, ground := Ground.data }, { on := 6, ground := Ground.guard }], guard := some (6, true) }) (v := ?_) rfl (by kernel_rfl) (by kernel_rfl) (by kernel_rfl) (fun _ _ _ h => h) (Or.inl ⟨by rfl, ?_⟩) (by assumption) ?_
                rotate_left
                · intro w hSw; (try dsimp only at hSw); go_simp; (try (with_reducible rfl))
                (try simp only [Act.put, List.setIfInBounds_toArray, List.set_cons_zero, List.set_cons_succ])
                refine wpAnyH_take (i := 19) (oi := { dst := some 95, op := Op.pick (Operand.tmp 82) (Operand.tmp 94) (Operand.const (Value.bool false)), type := 4, pos := "law.go:144", after := #[{ on := 6, ground := Ground.data }, { on := 18, ground := Ground.data }], guard := none }) (v := ?_) rfl (by kernel_rfl) (by kernel_rfl) (by kernel_rfl) (fun _ _ _ h => h) (Or.inl ⟨by rfl, ?_⟩) (by assumption) ?_
                rotate_left
                · intro w hSw; (try dsimp only at hSw); go_simp; (try (with_reducible rfl))
                (try simp only [Act.put, List.setIfInBounds_toArray, List.set_cons_zero, List.set_cons_succ])
                refine wpAnyH_take (i := 20) (oi := { dst := some 96, op := Op.move (Operand.tmp 95), type := 4, pos := "law.go:144", after := #[{ on := 19, ground := Ground.data }, { on := 14, ground := Ground.chain }], guard := none }) (v := ?_) rfl (by kernel_rfl) (by kernel_rfl) (by kernel_rfl) (fun _ _ _ h => h) (Or.inl ⟨by rfl, ?_⟩) (by assumption) ?_
                rotate_left
                · intro w hSw; (try dsimp only at hSw); go_simp; (try (with_reducible rfl))
                (try simp only [Act.put, List.setIfInBounds_toArray, List.set_cons_zero, List.set_cons_succ])
                refine wpAnyH_take (i := 21) (oi := { dst := some 97, op := Op.load 25 (Operand.tmp 12), type := 25, pos := "law.go:144", after := #[{ on := 20, ground := Ground.guard }], guard := some (20, true) }) (v := ?_) rfl (by kernel_rfl) (by kernel_rfl) (by kernel_rfl) (fun _ _ _ h => h) (Or.inl ⟨by rfl, ?_⟩) (by assumption) ?_
                rotate_left
                · intro w hSw; (try dsimp only at hSw); go_simp; (try (with_reducible rfl))
                (try simp only [Act.put, List.setIfInBounds_toArray, List.set_cons_zero, List.set_cons_succ])
                refine wpAnyH_take (i := 26) (oi := { dst := some 102, op := Op.move (Operand.tmp 2), type := 3, pos := "law.go:144", after := #[{ on := 20, ground := Ground.guard }], guard := some (20, true) }) (v := ?_) rfl (by kernel_rfl) (by kernel_rfl) (by kernel_rfl) (fun _ _ _ h => h) (Or.inl ⟨by rfl, ?_⟩) (by assumption) ?_
                rotate_left
                · intro w hSw; (try dsimp only at hSw); go_simp; (try (with_reducible rfl))
                (try simp only [Act.put, List.setIfInBounds_toArray, List.set_cons_zero, List.set_cons_succ])
                refine wpAnyH_take (i := 27) (oi := { dst := some 103, op := Op.binOp BinOp.eql 3 (Operand.tmp 102) (Operand.const (Value.int IntKind.i64 1)) 3, type := 4, pos := "law.go:144", after := #[{ on := 26, ground := Ground.data }, { on := 20, ground := Ground.guard }], guard := some (20, true) }) (v := ?_) rfl (by kernel_rfl) (by kernel_rfl) (by kernel_rfl) (fun _ _ _ h => h) (Or.inl ⟨by rfl, ?_⟩) (by assumption) ?_
                rotate_left
                · intro w hSw; (try dsimp only at hSw); go_simp; (try (with_reducible rfl))
                (try simp only [Act.put, List.setIfInBounds_toArray, List.set_cons_zero, List.set_cons_succ])
                refine wpAnyH_ready (rs := [22, 23]) (by kernel_rfl) (by simp) ?_
                refine AllReadyH.cons (o := { dst := some 98, op := Op.makeSlice 22 (Operand.const (Value.int IntKind.i64 1)) (Operand.const (Value.int IntKind.i64 1)), type := 22, pos := "law.go:144", after := #[{ on := 20, ground := Ground.guard }], guard := some (20, true) }) rfl (fun K hK => ?_) ?_
                ·
                  go_simp
                  refine hK.out _ _ (by (first | exact KEEP.out _ HBA.out | exact KEEP.out _ HB9.out | exact KEEP.out _ (HB7.out.alloc HB7.out.size _) | exact KEEP.out _ ((HB7.out.alloc HB7.out.size _).alloc (HB7.out.alloc HB7.out.size _).size _) | exact KEEP.out _ HB7.out | exact KEEP.out _ (HB6.out.alloc HB6.out.size _) | exact KEEP.out _ HB6.out | exact KEEP.out _ (HB5.out.alloc HB5.out.size _) | exact KEEP.out _ HB5.out | exact KEEP.out _ HB4.out)) (fun hHeld => ?_)
                  clear hK K
                  (try simp only [Act.put, List.setIfInBounds_toArray, List.set_cons_zero, List.set_cons_succ])
                  refine wpAnyH_ready (rs := [23]) (by kernel_rfl) (by simp) ?_
                  refine AllReadyH.cons (o := { dst := some 99, op := Op.makeSlice 23 (Operand.const (Value.int IntKind.i64 2)) (Operand.const (Value.int IntKind.i64 2)), type := 23, pos := "law.go:144", after := #[{ on := 20, ground := Ground.guard }], guard := some (20, true) }) rfl (fun K hK => ?_) ?_
                  ·
                    go_simp
                    refine hK.out _ _ (by (first | exact KEEP.out _ HBA.out | exact KEEP.out _ HB9.out | exact KEEP.out _ (HB7.out.alloc HB7.out.size _) | exact KEEP.out _ ((HB7.out.alloc HB7.out.size _).alloc (HB7.out.alloc HB7.out.size _).size _) | exact KEEP.out _ HB7.out | exact KEEP.out _ (HB6.out.alloc HB6.out.size _) | exact KEEP.out _ HB6.out | exact KEEP.out _ (HB5.out.alloc HB5.out.size _) | exact KEEP.out _ HB5.out | exact KEEP.out _ HB4.out)) (fun hHeld => ?_)
                    clear hK K
                    (try simp only [Act.put, List.setIfInBounds_toArray, List.set_cons_zero, List.set_cons_succ])
                    refine wpAnyH_take (i := 24) (oi := { dst := some 100, op := Op.build 25 #[(0, Operand.tmp 98), (1, Operand.tmp 99)], type := 25, pos := "law.go:144", after := #[{ on := 22, ground := Ground.data }, { on := 23, ground := Ground.data }, { on := 20, ground := Ground.guard }], guard := some (20, true) }) (v := ?_) rfl (by kernel_rfl) (by kernel_rfl) (by kernel_rfl) (fun _ _ _ h => h) (Or.inl ⟨by rfl, ?_⟩) (by assumption) ?_
                    rotate_left
                    · intro w hSw; (try dsimp only at hSw); go_simp; (try (with_reducible rfl))
                    (try simp only [Act.put, List.setIfInBounds_toArray, List.set_cons_zero, List.set_cons_succ])
                    refine wpAnyH_ready (rs := [25]) (by kernel_rfl) (by simp) ?_
                    refine AllReadyH.cons (o := { dst := some 101, op := Op.call { callee := Callee.value (Operand.func 9), args := #[Operand.tmp 97, Operand.tmp 100], argTypes := #[25, 25] }, type := 4, pos := "law.go:144", after := #[{ on := 21, ground := Ground.data }, { on := 24, ground := Ground.data }, { on := 20, ground := Ground.chain }, { on := 20, ground := Ground.guard }], guard := some (20, true) }) rfl (fun K hK => ?_) ?_
                    ·
                      go_simp
                      (first
                        | (go_at_call 14; have hq := HB5.out; refine (one_calls w5).mono ?_; rintro e w6 ⟨D1, D2, D3, D4, rfl, hl6, hb6⟩; have HL6 := Lib.hid hl6; have HB6 := Lib.hid (below_more HB5.out hb6); clear hb6 hl6 hq)
                        | (go_at_call 14; have hq := HB5.out; refine (one_calls (w5.alloc (.cells (zR r) 33))).mono ?_; rintro e w6 ⟨D1, D2, D3, D4, rfl, hl6, hb6⟩; have HL6 := Lib.hid hl6; have HR6 := Lib.hid ((sl_zr HBD.out (Blk.new w5 (zR r) 33 (0, 0))).stay hb6); have HB6 := Lib.hid (below_more (below_more HB5.out (below_new w5 _)) hb6); clear hb6 hl6 hq)
                        | (go_at_call 14; refine (one_calls _).mono ?_; rintro e w4 ⟨C1, C2, C3, C4, rfl, hl4, hb4⟩; have HL4 := Lib.hid hl4; have HB4 := Lib.hid (below_more HD.out hb4); clear hb4 hl4)
                        | (go_at_call 13; refine (Safe_calls w4 HL4.out (HI.out.stay HB4.out) (HO.out.stay HB4.out) oneL_ok).mono ?_; rw [S1.out]; rintro e w5 ⟨rfl, hb5⟩; have HB5 := Lib.hid (below_more HB4.out hb5); clear hb5)
                        | (go_at_call 15; have hq := HR6.out; refine (Held_calls w6 HL6.out (HI.out.stay HB6.out) (HO.out.stay HB6.out) hq oneL_ok).mono ?_; rw [S2.out]; rintro e w7 ⟨rfl, hb7⟩; have HB7 := Lib.hid (below_more HB6.out hb7); clear hb7 hq)
                        | (go_at_call 15; have hq := HB6.out; have hn6 := below_new w6 (.cells (zR r) 33); refine (Held_calls _ (HL6.out.stay hn6) ((HI.out.stay HB6.out).stay hn6) ((HO.out.stay HB6.out).stay hn6) (sl_zr HBD.out (Blk.new w6 _ _ _)) oneL_ok).mono ?_; rw [S2.out]; rintro e w7 ⟨rfl, hb7⟩; have HB7 := Lib.hid (below_more (below_more HB6.out hn6) hb7); clear hb7 hn6 hq)
                        | (go_at_call 9; (with_reducible refine (atm_l w7 (HO.out.stay HB7.out)).mono ?_); rw [S3.out]; rintro e w9 ⟨rfl, hb9⟩; have HB9 := Lib.hid (below_more HB7.out hb9); clear hb9)
                        | (go_at_call 9; (with_reducible refine (atm_r w7 (HO.out.stay HB7.out)).mono ?_); rw [S3.out]; rintro e w9 ⟨rfl, hb9⟩; have HB9 := Lib.hid (below_more HB7.out hb9); clear hb9)
                        | (go_at_call 12; refine (known_calls _).mono ?_; rintro e wa ⟨rfl, hba⟩; have HBA := Lib.hid (below_more HB9.out hba); clear hba)
                        | fail)
                      refine hK.out _ _ (by (first | exact KEEP.out _ HBA.out | exact KEEP.out _ HB9.out | exact KEEP.out _ (HB7.out.alloc HB7.out.size _) | exact KEEP.out _ ((HB7.out.alloc HB7.out.size _).alloc (HB7.out.alloc HB7.out.size _).size _) | exact KEEP.out _ HB7.out | exact KEEP.out _ (HB6.out.alloc HB6.out.size _) | exact KEEP.out _ HB6.out | exact KEEP.out _ (HB5.out.alloc HB5.out.size _) | exact KEEP.out _ HB5.out | exact KEEP.out _ HB4.out)) (fun hHeld => ?_)
                      clear hK K
                      (try simp only [Act.put, List.setIfInBounds_toArray, List.set_cons_zero, List.set_cons_succ])
                      refine wpAnyH_take (i := 28) (oi := { dst := some 104, op := Op.move (Operand.tmp 103), type := 4, pos := "law.go:144", after := #[{ on := 27, ground := Ground.data }, { on := 25, ground := Ground.chain }, { on := 20, ground := Ground.guard }], guard := some (20, true) }) (v := ?_) rfl (by kernel_rfl) (by kernel_rfl) (by kernel_rfl) (fun _ _ _ h => h) (Or.inl ⟨by rfl, ?_⟩) (by assumption) ?_
                      rotate_left
                      · intro w hSw; (try dsimp only at hSw); go_simp; (try (with_reducible rfl))
                      (try simp only [Act.put, List.setIfInBounds_toArray, List.set_cons_zero, List.set_cons_succ])
                      refine wpAnyH_take (i := 29) (oi := { dst := some 105, op := Op.move (Operand.tmp 3), type := 3, pos := "law.go:144", after := #[{ on := 28, ground := Ground.guard }], guard := some (28, true) }) (v := ?_) rfl (by kernel_rfl) (by kernel_rfl) (by kernel_rfl) (fun _ _ _ h => h) (Or.inl ⟨by rfl, ?_⟩) (by assumption) ?_
                      rotate_left
                      · intro w hSw; (try dsimp only at hSw); go_simp; (try (with_reducible rfl))
                      (try simp only [Act.put, List.setIfInBounds_toArray, List.set_cons_zero, List.set_cons_succ])
                      refine wpAnyH_take (i := 30) (oi := { dst := some 106, op := Op.binOp BinOp.eql 3 (Operand.tmp 105) (Operand.const (Value.int IntKind.i64 2)) 3, type := 4, pos := "law.go:144", after := #[{ on := 29, ground := Ground.data }, { on := 28, ground := Ground.guard }], guard := some (28, true) }) (v := ?_) rfl (by kernel_rfl) (by kernel_rfl) (by kernel_rfl) (fun _ _ _ h => h) (Or.inl ⟨by rfl, ?_⟩) (by assumption) ?_
                      rotate_left
                      · intro w hSw; (try dsimp only at hSw); go_simp; (try (with_reducible rfl))
                      (try simp only [Act.put, List.setIfInBounds_toArray, List.set_cons_zero, List.set_cons_succ])
                      refine wpAnyH_take (i := 31) (oi := { dst := some 107, op := Op.pick (Operand.tmp 104) (Operand.tmp 106) (Operand.const (Value.bool false)), type := 4, pos := "law.go:144", after := #[{ on := 28, ground := Ground.data }, { on := 30, ground := Ground.data }, { on := 20, ground := Ground.guard }], guard := some (20, true) }) (v := ?_) rfl (by kernel_rfl) (by kernel_rfl) (by kernel_rfl) (fun _ _ _ h => h) (Or.inl ⟨by rfl, ?_⟩) (by assumption) ?_
                      rotate_left
                      · intro w hSw; (try dsimp only at hSw); go_simp; (try (with_reducible rfl))
                      (try simp only [Act.put, List.setIfInBounds_toArray, List.set_cons_zero, List.set_cons_succ])
                      refine wpAnyH_take (i := 32) (oi := { dst := some 108, op := Op.binOp BinOp.eql 4 (Operand.tmp 101) (Operand.tmp 107) 4, type := 4, pos := "law.go:144", after := #[{ on := 25, ground := Ground.data }, { on := 31, ground := Ground.data }, { on := 20, ground := Ground.guard }], guard := some (20, true) }) (v := ?_) rfl (by kernel_rfl) (by kernel_rfl) (by kernel_rfl) (fun _ _ _ h => h) (Or.inl ⟨by rfl, ?_⟩) (by assumption) ?_
                      rotate_left
                      · intro w hSw; (try dsimp only at hSw); go_simp; (try (with_reducible rfl))
                      (try simp only [Act.put, List.setIfInBounds_toArray, List.set_cons_zero, List.set_cons_succ])
                      refine wpAnyH_take (i := 33) (oi := { dst := some 109, op := Op.pick (Operand.tmp 96) (Operand.tmp 108) (Operand.const (Value.bool false)), type := 4, pos := "law.go:144", after := #[{ on := 20, ground := Ground.data }, { on := 32, ground := Ground.data }], guard := none }) (v := ?_) rfl (by kernel_rfl) (by kernel_rfl) (by kernel_rfl) (fun _ _ _ h => h) (Or.inl ⟨by rfl, ?_⟩) (by assumption) ?_
                      rotate_left
                      · intro w hSw; (try dsimp only at hSw); go_simp; (try (with_reducible rfl))
                      (try simp only [Act.put, List.setIfInBounds_toArray, List.set_cons_zero, List.set_cons_succ])
                      refine wpAnyH_take (i := 34) (oi := { dst := some 110, op := Op.move (Operand.tmp 109), type := 4, pos := "law.go:144", after := #[{ on := 33, ground := Ground.data }, { on := 28, ground := Ground.chain }], guard := none }) (v := ?_) rfl (by kernel_rfl) (by kernel_rfl) (by kernel_rfl) (fun _ _ _ h => h) (Or.inl ⟨by rfl, ?_⟩) (by assumption) ?_
                      rotate_left
                      · intro w hSw; (try dsimp only at hSw); go_simp; (try (with_reducible rfl))
                      (try simp only [Act.put, List.setIfInBounds_toArray, List.set_cons_zero, List.set_cons_succ])
                      refine wpAnyH_ready (rs := [35]) (by kernel_rfl) (by simp) ?_
                      refine AllReadyH.cons (o := { dst := some 111, op := Op.call { callee := Callee.value (Operand.func 12), args := #[], argTypes := #[] }, type := 4, pos := "law.go:144", after := #[{ on := 34, ground := Ground.chain }, { on := 34, ground := Ground.guard }], guard := some (34, true) }) rfl (fun K hK => ?_) ?_
                      ·
                        go_simp
                        (first
                          | (go_at_call 14; have hq := HB5.out; refine (one_calls w5).mono ?_; rintro e w6 ⟨D1, D2, D3, D4, rfl, hl6, hb6⟩; have HL6 := Lib.hid hl6; have HB6 := Lib.hid (below_more HB5.out hb6); clear hb6 hl6 hq)
                          | (go_at_call 14; have hq := HB5.out; refine (one_calls (w5.alloc (.cells (zR r) 33))).mono ?_; rintro e w6 ⟨D1, D2, D3, D4, rfl, hl6, hb6⟩; have HL6 := Lib.hid hl6; have HR6 := Lib.hid ((sl_zr HBD.out (Blk.new w5 (zR r) 33 (0, 0))).stay hb6); have HB6 := Lib.hid (below_more (below_more HB5.out (below_new w5 _)) hb6); clear hb6 hl6 hq)
                          | (go_at_call 14; refine (one_calls _).mono ?_; rintro e w4 ⟨C1, C2, C3, C4, rfl, hl4, hb4⟩; have HL4 := Lib.hid hl4; have HB4 := Lib.hid (below_more HD.out hb4); clear hb4 hl4)
                          | (go_at_call 13; refine (Safe_calls w4 HL4.out (HI.out.stay HB4.out) (HO.out.stay HB4.out) oneL_ok).mono ?_; rw [S1.out]; rintro e w5 ⟨rfl, hb5⟩; have HB5 := Lib.hid (below_more HB4.out hb5); clear hb5)
                          | (go_at_call 15; have hq := HR6.out; refine (Held_calls w6 HL6.out (HI.out.stay HB6.out) (HO.out.stay HB6.out) hq oneL_ok).mono ?_; rw [S2.out]; rintro e w7 ⟨rfl, hb7⟩; have HB7 := Lib.hid (below_more HB6.out hb7); clear hb7 hq)
                          | (go_at_call 15; have hq := HB6.out; have hn6 := below_new w6 (.cells (zR r) 33); refine (Held_calls _ (HL6.out.stay hn6) ((HI.out.stay HB6.out).stay hn6) ((HO.out.stay HB6.out).stay hn6) (sl_zr HBD.out (Blk.new w6 _ _ _)) oneL_ok).mono ?_; rw [S2.out]; rintro e w7 ⟨rfl, hb7⟩; have HB7 := Lib.hid (below_more (below_more HB6.out hn6) hb7); clear hb7 hn6 hq)
                          | (go_at_call 9; (with_reducible refine (atm_l w7 (HO.out.stay HB7.out)).mono ?_); rw [S3.out]; rintro e w9 ⟨rfl, hb9⟩; have HB9 := Lib.hid (below_more HB7.out hb9); clear hb9)
                          | (go_at_call 9; (with_reducible refine (atm_r w7 (HO.out.stay HB7.out)).mono ?_); rw [S3.out]; rintro e w9 ⟨rfl, hb9⟩; have HB9 := Lib.hid (below_more HB7.out hb9); clear hb9)
                          | (go_at_call 12; refine (known_calls _).mono ?_; rintro e wa ⟨rfl, hba⟩; have HBA := Lib.hid (below_more HB9.out hba); clear hba)
                          | fail)
                        refine hK.out _ _ (by (first | exact KEEP.out _ HBA.out | exact KEEP.out _ HB9.out | exact KEEP.out _ (HB7.out.alloc HB7.out.size _) | exact KEEP.out _ ((HB7.out.alloc HB7.out.size _).alloc (HB7.out.alloc HB7.out.size _).size _) | exact KEEP.out _ HB7.out | exact KEEP.out _ (HB6.out.alloc HB6.out.size _) | exact KEEP.out _ HB6.out | exact KEEP.out _ (HB5.out.alloc HB5.out.size _) | exact KEEP.out _ HB5.out | exact KEEP.out _ HB4.out)) (fun hHeld => ?_)
                        clear hK K
                        (try simp only [Act.put, List.setIfInBounds_toArray, List.set_cons_zero, List.set_cons_succ])
                        refine wpAnyH_take (i := 36) (oi := { dst := some 112, op := Op.pick (Operand.tmp 110) (Operand.tmp 111) (Operand.const (Value.bool false)), type := 4, pos := "law.go:144", after := #[{ on := 34, ground := Ground.data }, { on := 35, ground := Ground.data }], guard := none }) (v := ?_) rfl (by kernel_rfl) (by kernel_rfl) (by kernel_rfl) (fun _ _ _ h => h) (Or.inl ⟨by rfl, ?_⟩) (by assumption) ?_
                        rotate_left
                        · intro w hSw; (try dsimp only at hSw); go_simp; (try (with_reducible rfl))
                        (try simp only [Act.put, List.setIfInBounds_toArray, List.set_cons_zero, List.set_cons_succ])
                        refine wpAnyH_take (i := 37) (oi := { dst := some 10, op := Op.assign (Operand.tmp 112), type := 4, pos := "law.go:144", after := #[{ on := 36, ground := Ground.data }, { on := 35, ground := Ground.chain }, { on := 0, ground := Ground.phase }, { on := 1, ground := Ground.phase }, { on := 2, ground := Ground.phase }, { on := 3, ground := Ground.phase }, { on := 4, ground := Ground.phase }, { on := 5, ground := Ground.phase }, { on := 6, ground := Ground.phase }, { on := 7, ground := Ground.phase }, { on := 8, ground := Ground.phase }, { on := 9, ground := Ground.phase }, { on := 10, ground := Ground.phase }, { on := 11, ground := Ground.phase }, { on := 12, ground := Ground.phase }, { on := 13, ground := Ground.phase }, { on := 14, ground := Ground.phase }, { on := 15, ground := Ground.phase }, { on := 16, ground := Ground.phase }, { on := 17, ground := Ground.phase }, { on := 18, ground := Ground.phase }, { on := 19, ground := Ground.phase }, { on := 20, ground := Ground.phase }, { on := 21, ground := Ground.phase }, { on := 22, ground := Ground.phase }, { on := 23, ground := Ground.phase }, { on := 24, ground := Ground.phase }, { on := 25, ground := Ground.phase }, { on := 26, ground := Ground.phase }, { on := 27, ground := Ground.phase }, { on := 28, ground := Ground.phase }, { on := 29, ground := Ground.phase }, { on := 30, ground := Ground.phase }, { on := 31, ground := Ground.phase }, { on := 32, ground := Ground.phase }, { on := 33, ground := Ground.phase }, { on := 34, ground := Ground.phase }, { on := 35, ground := Ground.phase }, { on := 36, ground := Ground.phase }], guard := none }) (v := ?_) rfl (by kernel_rfl) (by kernel_rfl) (by kernel_rfl) (fun _ _ _ h => h) (Or.inl ⟨by rfl, ?_⟩) (by assumption) ?_
                        rotate_left
                        · intro w hSw; (try dsimp only at hSw); go_simp; (try (with_reducible rfl))
                        (try simp only [Act.put, List.setIfInBounds_toArray, List.set_cons_zero, List.set_cons_succ])
                        refine wpAnyH_done (by kernel_rfl) ?_ _
                        go_wp2_with fail
                        go_ret
                        exact ⟨rfl, below_more HB.out HBA.out⟩
                      exact AllReadyH.nil
                    exact AllReadyH.nil
                  exact AllReadyH.nil
                refine AllReadyH.cons (o := { dst := some 99, op := Op.makeSlice 23 (Operand.const (Value.int IntKind.i64 2)) (Operand.const (Value.int IntKind.i64 2)), type := 23, pos := "law.go:144", after := #[{ on := 20, ground := Ground.guard }], guard := some (20, true) }) rfl (fun K hK => ?_) ?_
                ·
                  go_simp
                  refine hK.out _ _ (by (first | exact KEEP.out _ HBA.out | exact KEEP.out _ HB9.out | exact KEEP.out _ (HB7.out.alloc HB7.out.size _) | exact KEEP.out _ ((HB7.out.alloc HB7.out.size _).alloc (HB7.out.alloc HB7.out.size _).size _) | exact KEEP.out _ HB7.out | exact KEEP.out _ (HB6.out.alloc HB6.out.size _) | exact KEEP.out _ HB6.out | exact KEEP.out _ (HB5.out.alloc HB5.out.size _) | exact KEEP.out _ HB5.out | exact KEEP.out _ HB4.out)) (fun hHeld => ?_)
                  clear hK K
                  (try simp only [Act.put, List.setIfInBounds_toArray, List.set_cons_zero, List.set_cons_succ])
                  refine wpAnyH_ready (rs := [22]) (by kernel_rfl) (by simp) ?_
                  refine AllReadyH.cons (o := { dst := some 98, op := Op.makeSlice 22 (Operand.const (Value.int IntKind.i64 1)) (Operand.const (Value.int IntKind.i64 1)), type := 22, pos := "law.go:144", after := #[{ on := 20, ground := Ground.guard }], guard := some (20, true) }) rfl (fun K hK => ?_) ?_
                  ·
                    go_simp
                    refine hK.out _ _ (by (first | exact KEEP.out _ HBA.out | exact KEEP.out _ HB9.out | exact KEEP.out _ (HB7.out.alloc HB7.out.size _) | exact KEEP.out _ ((HB7.out.alloc HB7.out.size _).alloc (HB7.out.alloc HB7.out.size _).size _) | exact KEEP.out _ HB7.out | exact KEEP.out _ (HB6.out.alloc HB6.out.size _) | exact KEEP.out _ HB6.out | exact KEEP.out _ (HB5.out.alloc HB5.out.size _) | exact KEEP.out _ HB5.out | exact KEEP.out _ HB4.out)) (fun hHeld => ?_)
                    clear hK K
                    (try simp only [Act.put, List.setIfInBounds_toArray, List.set_cons_zero, List.set_cons_succ])
                    refine wpAnyH_take (i := 24) (oi := { dst := some 100, op := Op.build 25 #[(0, Operand.tmp 98), (1, Operand.tmp 99)], type := 25, pos := "law.go:144", after := #[{ on := 22, ground := Ground.data }, { on := 23, ground := Ground.data }, { on := 20, ground := Ground.guard }], guard := some (20, true) }) (v := ?_) rfl (by kernel_rfl) (by kernel_rfl) (by kernel_rfl) (fun _ _ _ h => h) (Or.inl ⟨by rfl, ?_⟩) (by assumption) ?_
                    rotate_left
                    · intro w hSw; (try dsimp only at hSw); go_simp; (try (with_reducible rfl))
                    (try simp only [Act.put, List.setIfInBounds_toArray, List.set_cons_zero, List.set_cons_succ])
                    refine wpAnyH_ready (rs := [25]) (by kernel_rfl) (by simp) ?_
                    refine AllReadyH.cons (o := { dst := some 101, op := Op.call { callee := Callee.value (Operand.func 9), args := #[Operand.tmp 97, Operand.tmp 100], argTypes := #[25, 25] }, type := 4, pos := "law.go:144", after := #[{ on := 21, ground := Ground.data }, { on := 24, ground := Ground.data }, { on := 20, ground := Ground.chain }, { on := 20, ground := Ground.guard }], guard := some (20, true) }) rfl (fun K hK => ?_) ?_
                    ·
                      go_simp
                      (first
                        | (go_at_call 14; have hq := HB5.out; refine (one_calls w5).mono ?_; rintro e w6 ⟨D1, D2, D3, D4, rfl, hl6, hb6⟩; have HL6 := Lib.hid hl6; have HB6 := Lib.hid (below_more HB5.out hb6); clear hb6 hl6 hq)
                        | (go_at_call 14; have hq := HB5.out; refine (one_calls (w5.alloc (.cells (zR r) 33))).mono ?_; rintro e w6 ⟨D1, D2, D3, D4, rfl, hl6, hb6⟩; have HL6 := Lib.hid hl6; have HR6 := Lib.hid ((sl_zr HBD.out (Blk.new w5 (zR r) 33 (0, 0))).stay hb6); have HB6 := Lib.hid (below_more (below_more HB5.out (below_new w5 _)) hb6); clear hb6 hl6 hq)
                        | (go_at_call 14; refine (one_calls _).mono ?_; rintro e w4 ⟨C1, C2, C3, C4, rfl, hl4, hb4⟩; have HL4 := Lib.hid hl4; have HB4 := Lib.hid (below_more HD.out hb4); clear hb4 hl4)
                        | (go_at_call 13; refine (Safe_calls w4 HL4.out (HI.out.stay HB4.out) (HO.out.stay HB4.out) oneL_ok).mono ?_; rw [S1.out]; rintro e w5 ⟨rfl, hb5⟩; have HB5 := Lib.hid (below_more HB4.out hb5); clear hb5)
                        | (go_at_call 15; have hq := HR6.out; refine (Held_calls w6 HL6.out (HI.out.stay HB6.out) (HO.out.stay HB6.out) hq oneL_ok).mono ?_; rw [S2.out]; rintro e w7 ⟨rfl, hb7⟩; have HB7 := Lib.hid (below_more HB6.out hb7); clear hb7 hq)
                        | (go_at_call 15; have hq := HB6.out; have hn6 := below_new w6 (.cells (zR r) 33); refine (Held_calls _ (HL6.out.stay hn6) ((HI.out.stay HB6.out).stay hn6) ((HO.out.stay HB6.out).stay hn6) (sl_zr HBD.out (Blk.new w6 _ _ _)) oneL_ok).mono ?_; rw [S2.out]; rintro e w7 ⟨rfl, hb7⟩; have HB7 := Lib.hid (below_more (below_more HB6.out hn6) hb7); clear hb7 hn6 hq)
                        | (go_at_call 9; (with_reducible refine (atm_l w7 (HO.out.stay HB7.out)).mono ?_); rw [S3.out]; rintro e w9 ⟨rfl, hb9⟩; have HB9 := Lib.hid (below_more HB7.out hb9); clear hb9)
                        | (go_at_call 9; (with_reducible refine (atm_r w7 (HO.out.stay HB7.out)).mono ?_); rw [S3.out]; rintro e w9 ⟨rfl, hb9⟩; have HB9 := Lib.hid (below_more HB7.out hb9); clear hb9)
                        | (go_at_call 12; refine (known_calls _).mono ?_; rintro e wa ⟨rfl, hba⟩; have HBA := Lib.hid (below_more HB9.out hba); clear hba)
                        | fail)
                      refine hK.out _ _ (by (first | exact KEEP.out _ HBA.out | exact KEEP.out _ HB9.out | exact KEEP.out _ (HB7.out.alloc HB7.out.size _) | exact KEEP.out _ ((HB7.out.alloc HB7.out.size _).alloc (HB7.out.alloc HB7.out.size _).size _) | exact KEEP.out _ HB7.out | exact KEEP.out _ (HB6.out.alloc HB6.out.size _) | exact KEEP.out _ HB6.out | exact KEEP.out _ (HB5.out.alloc HB5.out.size _) | exact KEEP.out _ HB5.out | exact KEEP.out _ HB4.out)) (fun hHeld => ?_)
                      clear hK K
                      (try simp only [Act.put, List.setIfInBounds_toArray, List.set_cons_zero, List.set_cons_succ])
                      refine wpAnyH_take (i := 28) (oi := { dst := some 104, op := Op.move (Operand.tmp 103), type := 4, pos := "law.go:144", after := #[{ on := 27, ground := Ground.data }, { on := 25, ground := Ground.chain }, { on := 20, ground := Ground.guard }], guard := some (20, true) }) (v := ?_) rfl (by kernel_rfl) (by kernel_rfl) (by kernel_rfl) (fun _ _ _ h => h) (Or.inl ⟨by rfl, ?_⟩) (by assumption) ?_
                      rotate_left
                      · intro w hSw; (try dsimp only at hSw); go_simp; (try (with_reducible rfl))
                      (try simp only [Act.put, List.setIfInBounds_toArray, List.set_cons_zero, List.set_cons_succ])
                      refine wpAnyH_take (i := 29) (oi := { dst := some 105, op := Op.move (Operand.tmp 3), type := 3, pos := "law.go:144", after := #[{ on := 28, ground := Ground.guard }], guard := some (28, true) }) (v := ?_) rfl (by kernel_rfl) (by kernel_rfl) (by kernel_rfl) (fun _ _ _ h => h) (Or.inl ⟨by rfl, ?_⟩) (by assumption) ?_
                      rotate_left
                      · intro w hSw; (try dsimp only at hSw); go_simp; (try (with_reducible rfl))
                      (try simp only [Act.put, List.setIfInBounds_toArray, List.set_cons_zero, List.set_cons_succ])
                      refine wpAnyH_take (i := 30) (oi := { dst := some 106, op := Op.binOp BinOp.eql 3 (Operand.tmp 105) (Operand.const (Value.int IntKind.i64 2)) 3, type := 4, pos := "law.go:144", after := #[{ on := 29, ground := Ground.data }, { on := 28, ground := Ground.guard }], guard := some (28, true) }) (v := ?_) rfl (by kernel_rfl) (by kernel_rfl) (by kernel_rfl) (fun _ _ _ h => h) (Or.inl ⟨by rfl, ?_⟩) (by assumption) ?_
                      rotate_left
                      · intro w hSw; (try dsimp only at hSw); go_simp; (try (with_reducible rfl))
                      (try simp only [Act.put, List.setIfInBounds_toArray, List.set_cons_zero, List.set_cons_succ])
                      refine wpAnyH_take (i := 31) (oi := { dst := some 107, op := Op.pick (Operand.tmp 104) (Operand.tmp 106) (Operand.const (Value.bool false)), type := 4, pos := "law.go:144", after := #[{ on := 28, ground := Ground.data }, { on := 30, ground := Ground.data }, { on := 20, ground := Ground.guard }], guard := some (20, true) }) (v := ?_) rfl (by kernel_rfl) (by kernel_rfl) (by kernel_rfl) (fun _ _ _ h => h) (Or.inl ⟨by rfl, ?_⟩) (by assumption) ?_
                      rotate_left
                      · intro w hSw; (try dsimp only at hSw); go_simp; (try (with_reducible rfl))
                      (try simp only [Act.put, List.setIfInBounds_toArray, List.set_cons_zero, List.set_cons_succ])
                      refine wpAnyH_take (i := 32) (oi := { dst := some 108, op := Op.binOp BinOp.eql 4 (Operand.tmp 101) (Operand.tmp 107) 4, type := 4, pos := "law.go:144", after := #[{ on := 25, ground := Ground.data }, { on := 31, ground := Ground.data }, { on := 20, ground := Ground.guard }], guard := some (20, true) }) (v := ?_) rfl (by kernel_rfl) (by kernel_rfl) (by kernel_rfl) (fun _ _ _ h => h) (Or.inl ⟨by rfl, ?_⟩) (by assumption) ?_
                      rotate_left
                      · intro w hSw; (try dsimp only at hSw); go_simp; (try (with_reducible rfl))
                      (try simp only [Act.put, List.setIfInBounds_toArray, List.set_cons_zero, List.set_cons_succ])
                      refine wpAnyH_take (i := 33) (oi := { dst := some 109, op := Op.pick (Operand.tmp 96) (Operand.tmp 108) (Operand.const (Value.bool false)), type := 4, pos := "law.go:144", after := #[{ on := 20, ground := Ground.data }, { on := 32, ground := Ground.data }], guard := none }) (v := ?_) rfl (by kernel_rfl) (by kernel_rfl) (by kernel_rfl) (fun _ _ _ h => h) (Or.inl ⟨by rfl, ?_⟩) (by assumption) ?_
                      rotate_left
                      · intro w hSw; (try dsimp only at hSw); go_simp; (try (with_reducible rfl))
                      (try simp only [Act.put, List.setIfInBounds_toArray, List.set_cons_zero, List.set_cons_succ])
                      refine wpAnyH_take (i := 34) (oi := { dst := some 110, op := Op.move (Operand.tmp 109), type := 4, pos := "law.go:144", after := #[{ on := 33, ground := Ground.data }, { on := 28, ground := Ground.chain }], guard := none }) (v := ?_) rfl (by kernel_rfl) (by kernel_rfl) (by kernel_rfl) (fun _ _ _ h => h) (Or.inl ⟨by rfl, ?_⟩) (by assumption) ?_
                      rotate_left
                      · intro w hSw; (try dsimp only at hSw); go_simp; (try (with_reducible rfl))
                      (try simp only [Act.put, List.setIfInBounds_toArray, List.set_cons_zero, List.set_cons_succ])
                      refine wpAnyH_ready (rs := [35]) (by kernel_rfl) (by simp) ?_
                      refine AllReadyH.cons (o := { dst := some 111, op := Op.call { callee := Callee.value (Operand.func 12), args := #[], argTypes := #[] }, type := 4, pos := "law.go:144", after := #[{ on := 34, ground := Ground.chain }, { on := 34, ground := Ground.guard }], guard := some (34, true) }) rfl (fun K hK => ?_) ?_
                      ·
                        go_simp
                        (first
                          | (go_at_call 14; have hq := HB5.out; refine (one_calls w5).mono ?_; rintro e w6 ⟨D1, D2, D3, D4, rfl, hl6, hb6⟩; have HL6 := Lib.hid hl6; have HB6 := Lib.hid (below_more HB5.out hb6); clear hb6 hl6 hq)
                          | (go_at_call 14; have hq := HB5.out; refine (one_calls (w5.alloc (.cells (zR r) 33))).mono ?_; rintro e w6 ⟨D1, D2, D3, D4, rfl, hl6, hb6⟩; have HL6 := Lib.hid hl6; have HR6 := Lib.hid ((sl_zr HBD.out (Blk.new w5 (zR r) 33 (0, 0))).stay hb6); have HB6 := Lib.hid (below_more (below_more HB5.out (below_new w5 _)) hb6); clear hb6 hl6 hq)
                          | (go_at_call 14; refine (one_calls _).mono ?_; rintro e w4 ⟨C1, C2, C3, C4, rfl, hl4, hb4⟩; have HL4 := Lib.hid hl4; have HB4 := Lib.hid (below_more HD.out hb4); clear hb4 hl4)
                          | (go_at_call 13; refine (Safe_calls w4 HL4.out (HI.out.stay HB4.out) (HO.out.stay HB4.out) oneL_ok).mono ?_; rw [S1.out]; rintro e w5 ⟨rfl, hb5⟩; have HB5 := Lib.hid (below_more HB4.out hb5); clear hb5)
                          | (go_at_call 15; have hq := HR6.out; refine (Held_calls w6 HL6.out (HI.out.stay HB6.out) (HO.out.stay HB6.out) hq oneL_ok).mono ?_; rw [S2.out]; rintro e w7 ⟨rfl, hb7⟩; have HB7 := Lib.hid (below_more HB6.out hb7); clear hb7 hq)
                          | (go_at_call 15; have hq := HB6.out; have hn6 := below_new w6 (.cells (zR r) 33); refine (Held_calls _ (HL6.out.stay hn6) ((HI.out.stay HB6.out).stay hn6) ((HO.out.stay HB6.out).stay hn6) (sl_zr HBD.out (Blk.new w6 _ _ _)) oneL_ok).mono ?_; rw [S2.out]; rintro e w7 ⟨rfl, hb7⟩; have HB7 := Lib.hid (below_more (below_more HB6.out hn6) hb7); clear hb7 hn6 hq)
                          | (go_at_call 9; (with_reducible refine (atm_l w7 (HO.out.stay HB7.out)).mono ?_); rw [S3.out]; rintro e w9 ⟨rfl, hb9⟩; have HB9 := Lib.hid (below_more HB7.out hb9); clear hb9)
                          | (go_at_call 9; (with_reducible refine (atm_r w7 (HO.out.stay HB7.out)).mono ?_); rw [S3.out]; rintro e w9 ⟨rfl, hb9⟩; have HB9 := Lib.hid (below_more HB7.out hb9); clear hb9)
                          | (go_at_call 12; refine (known_calls _).mono ?_; rintro e wa ⟨rfl, hba⟩; have HBA := Lib.hid (below_more HB9.out hba); clear hba)
                          | fail)
                        refine hK.out _ _ (by (first | exact KEEP.out _ HBA.out | exact KEEP.out _ HB9.out | exact KEEP.out _ (HB7.out.alloc HB7.out.size _) | exact KEEP.out _ ((HB7.out.alloc HB7.out.size _).alloc (HB7.out.alloc HB7.out.size _).size _) | exact KEEP.out _ HB7.out | exact KEEP.out _ (HB6.out.alloc HB6.out.size _) | exact KEEP.out _ HB6.out | exact KEEP.out _ (HB5.out.alloc HB5.out.size _) | exact KEEP.out _ HB5.out | exact KEEP.out _ HB4.out)) (fun hHeld => ?_)
                        clear hK K
                        (try simp only [Act.put, List.setIfInBounds_toArray, List.set_cons_zero, List.set_cons_succ])
                        refine wpAnyH_take (i := 36) (oi := { dst := some 112, op := Op.pick (Operand.tmp 110) (Operand.tmp 111) (Operand.const (Value.bool false)), type := 4, pos := "law.go:144", after := #[{ on := 34, ground := Ground.data }, { on := 35, ground := Ground.data }], guard := none }) (v := ?_) rfl (by kernel_rfl) (by kernel_rfl) (by kernel_rfl) (fun _ _ _ h => h) (Or.inl ⟨by rfl, ?_⟩) (by assumption) ?_
                        rotate_left
                        · intro w hSw; (try dsimp only at hSw); go_simp; (try (with_reducible rfl))
                        (try simp only [Act.put, List.setIfInBounds_toArray, List.set_cons_zero, List.set_cons_succ])
                        refine wpAnyH_take (i := 37) (oi := { dst := some 10, op := Op.assign (Operand.tmp 112), type := 4, pos := "law.go:144", after := #[{ on := 36, ground := Ground.data }, { on := 35, ground := Ground.chain }, { on := 0, ground := Ground.phase }, { on := 1, ground := Ground.phase }, { on := 2, ground := Ground.phase }, { on := 3, ground := Ground.phase }, { on := 4, ground := Ground.phase }, { on := 5, ground := Ground.phase }, { on := 6, ground := Ground.phase }, { on := 7, ground := Ground.phase }, { on := 8, ground := Ground.phase }, { on := 9, ground := Ground.phase }, { on := 10, ground := Ground.phase }, { on := 11, ground := Ground.phase }, { on := 12, ground := Ground.phase }, { on := 13, ground := Ground.phase }, { on := 14, ground := Ground.phase }, { on := 15, ground := Ground.phase }, { on := 16, ground := Ground.phase }, { on := 17, ground := Ground.phase }, { on := 18, ground := Ground.phase }, { on := 19, ground := Ground.phase }, { on := 20, ground := Ground.phase }, { on := 21, ground := Ground.phase }, { on := 22, ground := Ground.phase }, { on := 23, ground := Ground.phase }, { on := 24, ground := Ground.phase }, { on := 25, ground := Ground.phase }, { on := 26, ground := Ground.phase }, { on := 27, ground := Ground.phase }, { on := 28, ground := Ground.phase }, { on := 29, ground := Ground.phase }, { on := 30, ground := Ground.phase }, { on := 31, ground := Ground.phase }, { on := 32, ground := Ground.phase }, { on := 33, ground := Ground.phase }, { on := 34, ground := Ground.phase }, { on := 35, ground := Ground.phase }, { on := 36, ground := Ground.phase }], guard := none }) (v := ?_) rfl (by kernel_rfl) (by kernel_rfl) (by kernel_rfl) (fun _ _ _ h => h) (Or.inl ⟨by rfl, ?_⟩) (by assumption) ?_
                        rotate_left
                        · intro w hSw; (try dsimp only at hSw); go_simp; (try (with_reducible rfl))
                        (try simp only [Act.put, List.setIfInBounds_toArray, List.set_cons_zero, List.set_cons_succ])
                        refine wpAnyH_done (by kernel_rfl) ?_ _
                        go_wp2_with fail
                        go_ret
                        exact ⟨rfl, below_more HB.out HBA.out⟩
                      exact AllReadyH.nil
                    exact AllReadyH.nil
                  exact AllReadyH.nil
                exact AllReadyH.nil
              exact AllReadyH.nil
            exact AllReadyH.nil
          exact AllReadyH.nil
        exact AllReadyH.nil
      exact AllReadyH.nil
end Go.Proofs.Ytmdggodkkkihhaa
