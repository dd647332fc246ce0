/- Walk of JudgeOne. -/
import Derived.Test.YtmdggodkkkihhaaJuNon
set_option linter.unusedVariables false
namespace Go.Proofs.Ytmdggodkkkihhaa
open Go.RowKit

/-- What JudgeOne asks for. -/
def wantB (cl l1 d0 p : Bool) : Bool := (!p || cl && l1) && (d0 || cl)
theorem one_all : ∀ (o l d : Fin 4) (p : Bool), o.val ≤ 3 → l.val ≤ 2 → d.val ≤ 2 →
    safeM oneL ⟨[bits .and .i64 (o.val : Int) 1 == 1, bits .and .i64 (o.val : Int) 2 == 2], [(l.val : Int)]⟩ ⟨[(d.val : Int)], [p, false]⟩ = wantB (bits .and .i64 (o.val : Int) 1 == 0) ((l.val : Int) == 1) ((d.val : Int) == 0) p ∧
    heldM oneL ⟨[bits .and .i64 (o.val : Int) 1 == 1, bits .and .i64 (o.val : Int) 2 == 2], [(l.val : Int)]⟩ ⟨[(d.val : Int)], [p, false]⟩ [⟨2, 0, 0, false⟩] = (wantB (bits .and .i64 (o.val : Int) 1 == 0) ((l.val : Int) == 1) ((d.val : Int) == 0) p && (((d.val : Int) == 0) || ((d.val : Int) == 1))) ∧
    heldM oneL ⟨[bits .and .i64 (o.val : Int) 1 == 1, bits .and .i64 (o.val : Int) 2 == 2], [(l.val : Int)]⟩ ⟨[(d.val : Int)], [p, false]⟩ [⟨0, 0, 0, false⟩] = (wantB (bits .and .i64 (o.val : Int) 1 == 0) ((l.val : Int) == 1) ((d.val : Int) == 0) p && !p) := by
  decide
set_option maxRecDepth 4000 in
set_option maxHeartbeats 8000000 in
theorem judgeOne_calls (o l : Int) (p : Bool) (d : Int) (w : World) : Calls Try.prog 4 #[.int .i64 o, .int .i64 l, .bool p, .int .i64 d] w fun e w' => e = .returned (.bool true) ∧ Below w.heap.size w w' := by
  by_cases hin : 0 ≤ o ∧ o ≤ 3 ∧ 0 ≤ l ∧ l ≤ 2 ∧ 0 ≤ d ∧ d ≤ 2
  case neg =>
    by_cases k0 : o < 0
    · clear hin
      go_enter Try.func4, Try.ntmps4
      go_wp2_with fail
      go_ret
      exact ⟨rfl, Below.refl _ _⟩
    by_cases k1 : 3 < o
    · clear hin
      go_enter Try.func4, Try.ntmps4
      go_wp2_with fail
      go_ret
      exact ⟨rfl, Below.refl _ _⟩
    by_cases k2 : l < 0
    · clear hin
      go_enter Try.func4, Try.ntmps4
      go_wp2_with fail
      go_ret
      exact ⟨rfl, Below.refl _ _⟩
    by_cases k3 : 2 < l
    · clear hin
      go_enter Try.func4, Try.ntmps4
      go_wp2_with fail
      go_ret
      exact ⟨rfl, Below.refl _ _⟩
    by_cases k4 : d < 0
    · clear hin
      go_enter Try.func4, Try.ntmps4
      go_wp2_with fail
      go_ret
      exact ⟨rfl, Below.refl _ _⟩
    by_cases k5 : 2 < d
    · clear hin
      go_enter Try.func4, Try.ntmps4
      go_wp2_with fail
      go_ret
      exact ⟨rfl, Below.refl _ _⟩
    exact absurd ⟨by omega, by omega, by omega, by omega, by omega, by omega⟩ hin
  case pos =>
    obtain ⟨ho0, ho1, hl0, hl1, hd0, hd1⟩ := hin
    have h1 := one_all ⟨o.toNat, by omega⟩ ⟨l.toNat, by omega⟩ ⟨d.toNat, by omega⟩ p (by show o.toNat ≤ 3; omega) (by show l.toNat ≤ 2; omega) (by show d.toNat ≤ 2; omega)
    simp only [show ((o.toNat : Nat) : Int) = o by omega, show ((l.toNat : Nat) : Int) = l by omega, show ((d.toNat : Nat) : Int) = d by omega] at h1
    have H1 := Lib.hid h1
    clear h1
    have HK := Lib.hid (io_ok w (bits .and .i64 o 1 == 1) (bits .and .i64 o 2 == 2) l d p false)
    unfold ioW at HK
    go_enter Try.func4, Try.ntmps4
    go_upto_region 6 with fail
    clear ho0 ho1 hl0 hl1 hd0 hd1
    generalize hc1 : (bits BinOp.and IntKind.i64 o 1 == 1) = q1 at *
    generalize hc2 : (bits BinOp.and IntKind.i64 o 2 == 2) = q2 at *
    generalize hc3 : (bits BinOp.and IntKind.i64 o 1 == 0) = cl at *
    clear hc1 hc2 hc3
    generalize ((((((w.alloc (.cells #[.bool q1, .bool q2] 4)).alloc (.cells #[.int .i64 l] 3)).alloc (.cells #[.slice (some ⟨w.heap.size, 0, none⟩) 2 2, .slice (some ⟨w.heap.size + 1, 0, none⟩) 1 1] 28)).alloc (.cells #[.int .i64 d] 3)).alloc (.cells #[.bool p, .bool false] 4)).alloc (.cells #[.slice (some ⟨w.heap.size + 1 + 1 + 1, 0, none⟩) 1 1, .slice (some ⟨w.heap.size + 1 + 1 + 1 + 1, 0, none⟩) 2 2] 25)) = W0 at *
    have HN := Lib.hid HK.out.b
    generalize hgn : w.heap.size = gn at *
    have HGN := Lib.hid hgn
    have i0 := HK.out.i.c0
    have i1 := HK.out.i.c1
    have o0 := HK.out.o.c0
    have o1 := HK.out.o.c1
    rw [hgn] at i0 i1 o0 o1
    have HI := Lib.hid HK.out.i.v
    have HO := Lib.hid HK.out.o.v
    rw [hgn] at HI HO
    clear hgn HK
    generalize hl1 : (l == 1) = bl at *
    generalize hd0 : (d == 0) = e0 at *
    generalize hd1 : (d == 1) = e1 at *
    go_cut [12] (fun s12 wx => s12 = .bool (wantB cl bl e0 p) ∧ wx = W0)
    case first =>
      clear hd1
      cases p <;> cases cl <;> cases bl <;> cases e0 <;> (go_wp2_with fail; go_meet; exact ⟨rfl, rfl⟩)
    case rest =>
      obtain ⟨rfl, hwx⟩ := hcut
      obtain rfl : W0 = wc := hwx.symm
      clear hwx
      generalize wantB cl bl e0 p = wb at *
      go_upto_region 8 with fail
      have HR : Hid (Sl flR (W0.alloc (.cells #[.int .i64 2, .int .i64 0, .int .i64 0, .bool false] 33)) (some ⟨W0.heap.size, 0, none⟩) 1 1 [⟨2, 0, 0, false⟩]) := Lib.hid (sl_lit flR _ 1 rfl (Blk.new W0 _ _ _) rfl (by omega))
      have hn := below_new W0 (.cells #[.int .i64 2, .int .i64 0, .int .i64 0, .bool false] 33)
      have HI := Lib.hid (HI.out.stay hn)
      have HO := Lib.hid (HO.out.stay hn)
      have HN1 := Lib.hid (below_more (by rw [HGN.out]; exact HN.out) hn)
      have i0 := cell_stay hn i0
      have i1 := cell_stay hn i1
      have o0 := cell_stay hn o0
      have o1 := cell_stay hn o1
      generalize hgr : W0.heap.size = gr at *
      clear hgr hn
      generalize hW1 : (W0.alloc (.cells #[.int .i64 2, .int .i64 0, .int .i64 0, .bool false] 33)) = W1 at *
      clear hW1
      go_cut [14] (fun s14 wx => s14 = .bool (wb && (e0 || e1)) ∧ wx = W1)
      case first =>
        clear hl1
        cases e0 with
        | true =>
          clear hd1
          cases wb <;> (go_wp2_with fail; go_meet; exact ⟨rfl, rfl⟩)
        | false =>
          cases wb <;> cases e1 <;> (go_wp2_with fail; go_meet; exact ⟨rfl, rfl⟩)
      case rest =>
        obtain ⟨rfl, hwx⟩ := hcut
        obtain rfl : W1 = wc := hwx.symm
        clear hwx
        go_upto_region 9 with fail
        generalize (wb && (e0 || e1)) = hb at *
        go_cut [15] (fun s15 wx => s15 = .bool (wb && !p) ∧ wx = W1)
        case first =>
          clear hl1 hd0 hd1
          cases wb <;> cases p <;> (go_wp2_with fail; go_meet; exact ⟨rfl, rfl⟩)
        case rest =>
          obtain ⟨rfl, hwx⟩ := hcut
          obtain rfl : W1 = wc := hwx.symm
          clear hwx
          go_upto_region 10 with fail
          generalize (wb && !p) = nb at *
          clear hl1 hd0 hd1
          have KEEP := Lib.hid (fun (w1 : World) (hb : Below W1.heap.size W1 w1) => (⟨cell_stay hb i0, cell_stay hb i1, cell_stay hb o0, cell_stay hb o1⟩ :
            w1.cell? ⟨gn + 1 + 1, 0, none⟩ = some (.slice (some ⟨gn, 0, none⟩) 2 2) ∧ w1.cell? ⟨gn + 1 + 1, 1, none⟩ = some (.slice (some ⟨gn + 1, 0, none⟩) 1 1) ∧ w1.cell? ⟨gn + 1 + 1 + 1 + 1 + 1, 0, none⟩ = some (.slice (some ⟨gn + 1 + 1 + 1, 0, none⟩) 1 1) ∧ w1.cell? ⟨gn + 1 + 1 + 1 + 1 + 1, 1, none⟩ = some (.slice (some ⟨gn + 1 + 1 + 1 + 1, 0, none⟩) 2 2)))
          have HD := Lib.hid (below_drawn (Below.refl W1.heap.size W1) 1)
          go_region_held3 (fun w1 => w1.cell? ⟨gn + 1 + 1, 0, none⟩ = some (.slice (some ⟨gn, 0, none⟩) 2 2) ∧ w1.cell? ⟨gn + 1 + 1, 1, none⟩ = some (.slice (some ⟨gn + 1, 0, none⟩) 1 1) ∧ w1.cell? ⟨gn + 1 + 1 + 1 + 1 + 1, 0, none⟩ = some (.slice (some ⟨gn + 1 + 1 + 1, 0, none⟩) 1 1) ∧ w1.cell? ⟨gn + 1 + 1 + 1 + 1 + 1, 1, none⟩ = some (.slice (some ⟨gn + 1 + 1 + 1 + 1, 0, none⟩) 2 2))
            (first | exact KEEP.out _ HD.out | exact KEEP.out _ HBA.out | exact KEEP.out _ HB9.out | exact KEEP.out _ (HB8.out.alloc HB8.out.size _) | exact KEEP.out _ HB8.out | exact KEEP.out _ (HB7.out.alloc HB7.out.size _) | exact KEEP.out _ HB7.out | exact KEEP.out _ HB6.out | exact KEEP.out _ HB5.out | exact KEEP.out _ HB4.out)
            (first
              | (go_at_call 14; have hq := HB7.out; refine (one_calls w7).mono ?_; rintro e w8 ⟨G1, G2, G3, G4, rfl, hl8, hb8⟩; have HL8 := Lib.hid hl8; have HB8 := Lib.hid (below_more HB7.out hb8); clear hb8 hl8 hq)
              | (go_at_call 14; have hq := HB7.out; refine (one_calls (w7.alloc (.cells #[.int .i64 0, .int .i64 0, .int .i64 0, .bool false] 33))).mono ?_; rintro e w8 ⟨G1, G2, G3, G4, rfl, hl8, hb8⟩; have HL8 := Lib.hid hl8; have HB8 := Lib.hid (below_more (below_more HB7.out (below_new w7 _)) hb8); have HR8 := Lib.hid ((sl_lit flR [⟨0, 0, 0, false⟩] 1 rfl (Blk.new w7 #[.int .i64 0, .int .i64 0, .int .i64 0, .bool false] 33 (0, 0)) rfl (by omega)).stay hb8); clear hb8 hl8 hq)
              | (go_at_call 14; have hq := HB5.out; refine (one_calls _).mono ?_; rintro e w6 ⟨D1, D2, D3, D4, rfl, hl6, hb6⟩; have HL6 := Lib.hid hl6; have HB6 := Lib.hid (below_more HB5.out hb6); clear hb6 hl6 hq)
              | (go_at_call 14; refine (one_calls _).mono ?_; rintro e w4 ⟨B1, B2, B3, B4, rfl, hl4, hb4⟩; have HL4 := Lib.hid hl4; have HB4 := Lib.hid (below_more HD.out hb4); clear hb4 hl4)
              | (go_at_call 13; refine (Safe_calls w4 HL4.out (HI.out.stay HB4.out) (HO.out.stay HB4.out) oneL_ok).mono ?_; rw [H1.out.1]; rintro e w5 ⟨rfl, hb5⟩; have HB5 := Lib.hid (below_more HB4.out hb5); clear hb5)
              | (go_at_call 15; have hq := HR8.out; refine (Held_calls w8 HL8.out (HI.out.stay HB8.out) (HO.out.stay HB8.out) hq oneL_ok).mono ?_; rw [H1.out.2.2]; rintro e w9 ⟨rfl, hb9⟩; have HB9 := Lib.hid (below_more HB8.out hb9); clear hb9 hq)
              | (go_at_call 15; have hq := HB8.out; have hn8 := below_new w8 (.cells #[.int .i64 0, .int .i64 0, .int .i64 0, .bool false] 33); refine (Held_calls _ (HL8.out.stay hn8) ((HI.out.stay HB8.out).stay hn8) ((HO.out.stay HB8.out).stay hn8) (sl_lit flR [⟨0, 0, 0, false⟩] 1 rfl (Blk.new w8 _ _ _) rfl (by omega)) oneL_ok).mono ?_; rw [H1.out.2.2]; rintro e w9 ⟨rfl, hb9⟩; have HB9 := Lib.hid (below_more (below_more HB8.out hn8) hb9); clear hb9 hn8 hq)
              | (go_at_call 15; refine (Held_calls w6 HL6.out (HI.out.stay HB6.out) (HO.out.stay HB6.out) (HR.out.stay HB6.out) oneL_ok).mono ?_; rw [H1.out.2.1]; rintro e w7 ⟨rfl, hb7⟩; have HB7 := Lib.hid (below_more HB6.out hb7); clear hb7)
              | (go_at_call 12; refine (known_calls _).mono ?_; rintro e wa ⟨rfl, hba⟩; have HBA := Lib.hid (below_more HB9.out hba); clear hba)
              | fail)
          all_goals go_wp2_with fail
          all_goals go_ret
          all_goals exact ⟨rfl, below_more HN1.out HBA.out⟩
end Go.Proofs.Ytmdggodkkkihhaa
