/- Walk of JudgeNone. -/
import Derived.Test.YtmdggodkkkihhaaJuKn
set_option linter.unusedVariables false
namespace Go.Proofs.Ytmdggodkkkihhaa
open Go.RowKit

/-- The world in which what the field tells and is told has been laid. -/
def ioW (w : World) (b1 b2 : Bool) (l d : Int) (p1 p2 : Bool) : World :=
  ((((((w.alloc (.cells #[.bool b1, .bool b2] 4)).alloc (.cells #[.int .i64 l] 3)).alloc (.cells #[.slice (some ⟨w.heap.size, 0, none⟩) 2 2, .slice (some ⟨w.heap.size + 1, 0, none⟩) 1 1] 28)).alloc (.cells #[.int .i64 d] 3)).alloc (.cells #[.bool p1, .bool p2] 4)).alloc (.cells #[.slice (some ⟨w.heap.size + 1 + 1 + 1, 0, none⟩) 1 1, .slice (some ⟨w.heap.size + 1 + 1 + 1 + 1, 0, none⟩) 2 2] 25))
structure IoOk (w W : World) (b1 b2 : Bool) (l d : Int) (p1 p2 : Bool) : Prop where
  i : InB W (w.heap.size + 1 + 1) ⟨[b1, b2], [l]⟩ (some ⟨w.heap.size, 0, none⟩) (some ⟨w.heap.size + 1, 0, none⟩) 2 2 1 1
  o : OuB W (w.heap.size + 1 + 1 + 1 + 1 + 1) ⟨[d], [p1, p2]⟩ (some ⟨w.heap.size + 1 + 1 + 1, 0, none⟩) (some ⟨w.heap.size + 1 + 1 + 1 + 1, 0, none⟩) 1 1 2 2
  b : Below w.heap.size w W
  s : W.heap.size = w.heap.size + 6
theorem io_ok (w : World) (b1 b2 : Bool) (l d : Int) (p1 p2 : Bool) : IoOk w (ioW w b1 b2 l d p1 p2) b1 b2 l d p1 p2 := by
  unfold ioW
  have h0 := Blk.new w #[.bool b1, .bool b2] 4 (0, 0)
  have bl := below_new w (.cells #[.bool b1, .bool b2] 4)
  have s0 : (w.alloc (.cells #[.bool b1, .bool b2] 4)).heap.size = w.heap.size + 1 := by simp
  generalize (w.alloc (.cells #[.bool b1, .bool b2] 4)) = w0 at *
  have h1 := Blk.at_ (w := w0) (g := w.heap.size + 1) s0.symm #[.int .i64 l] 3 (0, 0)
  have bl := below_more bl (below_new w0 (.cells #[.int .i64 l] 3))
  have s1 : (w0.alloc (.cells #[.int .i64 l] 3)).heap.size = w.heap.size + 1 + 1 := by simp; omega
  have h0 := h0.alloc (.cells #[.int .i64 l] 3)
  generalize (w0.alloc (.cells #[.int .i64 l] 3)) = w1 at *
  have h2 := Blk.at_ (w := w1) (g := w.heap.size + 1 + 1) s1.symm #[.slice (some ⟨w.heap.size, 0, none⟩) 2 2, .slice (some ⟨w.heap.size + 1, 0, none⟩) 1 1] 28 (0, 0)
  have bl := below_more bl (below_new w1 (.cells #[.slice (some ⟨w.heap.size, 0, none⟩) 2 2, .slice (some ⟨w.heap.size + 1, 0, none⟩) 1 1] 28))
  have s2 : (w1.alloc (.cells #[.slice (some ⟨w.heap.size, 0, none⟩) 2 2, .slice (some ⟨w.heap.size + 1, 0, none⟩) 1 1] 28)).heap.size = w.heap.size + 1 + 1 + 1 := by simp; omega
  have h0 := h0.alloc (.cells #[.slice (some ⟨w.heap.size, 0, none⟩) 2 2, .slice (some ⟨w.heap.size + 1, 0, none⟩) 1 1] 28)
  have h1 := h1.alloc (.cells #[.slice (some ⟨w.heap.size, 0, none⟩) 2 2, .slice (some ⟨w.heap.size + 1, 0, none⟩) 1 1] 28)
  generalize (w1.alloc (.cells #[.slice (some ⟨w.heap.size, 0, none⟩) 2 2, .slice (some ⟨w.heap.size + 1, 0, none⟩) 1 1] 28)) = w2 at *
  have h3 := Blk.at_ (w := w2) (g := w.heap.size + 1 + 1 + 1) s2.symm #[.int .i64 d] 3 (0, 0)
  have bl := below_more bl (below_new w2 (.cells #[.int .i64 d] 3))
  have s3 : (w2.alloc (.cells #[.int .i64 d] 3)).heap.size = w.heap.size + 1 + 1 + 1 + 1 := by simp; omega
  have h0 := h0.alloc (.cells #[.int .i64 d] 3)
  have h1 := h1.alloc (.cells #[.int .i64 d] 3)
  have h2 := h2.alloc (.cells #[.int .i64 d] 3)
  generalize (w2.alloc (.cells #[.int .i64 d] 3)) = w3 at *
  have h4 := Blk.at_ (w := w3) (g := w.heap.size + 1 + 1 + 1 + 1) s3.symm #[.bool p1, .bool p2] 4 (0, 0)
  have bl := below_more bl (below_new w3 (.cells #[.bool p1, .bool p2] 4))
  have s4 : (w3.alloc (.cells #[.bool p1, .bool p2] 4)).heap.size = w.heap.size + 1 + 1 + 1 + 1 + 1 := by simp; omega
  have h0 := h0.alloc (.cells #[.bool p1, .bool p2] 4)
  have h1 := h1.alloc (.cells #[.bool p1, .bool p2] 4)
  have h2 := h2.alloc (.cells #[.bool p1, .bool p2] 4)
  have h3 := h3.alloc (.cells #[.bool p1, .bool p2] 4)
  generalize (w3.alloc (.cells #[.bool p1, .bool p2] 4)) = w4 at *
  have h5 := Blk.at_ (w := w4) (g := w.heap.size + 1 + 1 + 1 + 1 + 1) s4.symm #[.slice (some ⟨w.heap.size + 1 + 1 + 1, 0, none⟩) 1 1, .slice (some ⟨w.heap.size + 1 + 1 + 1 + 1, 0, none⟩) 2 2] 25 (0, 0)
  have bl := below_more bl (below_new w4 (.cells #[.slice (some ⟨w.heap.size + 1 + 1 + 1, 0, none⟩) 1 1, .slice (some ⟨w.heap.size + 1 + 1 + 1 + 1, 0, none⟩) 2 2] 25))
  have s5 : (w4.alloc (.cells #[.slice (some ⟨w.heap.size + 1 + 1 + 1, 0, none⟩) 1 1, .slice (some ⟨w.heap.size + 1 + 1 + 1 + 1, 0, none⟩) 2 2] 25)).heap.size = w.heap.size + 6 := by simp; omega
  have h0 := h0.alloc (.cells #[.slice (some ⟨w.heap.size + 1 + 1 + 1, 0, none⟩) 1 1, .slice (some ⟨w.heap.size + 1 + 1 + 1 + 1, 0, none⟩) 2 2] 25)
  have h1 := h1.alloc (.cells #[.slice (some ⟨w.heap.size + 1 + 1 + 1, 0, none⟩) 1 1, .slice (some ⟨w.heap.size + 1 + 1 + 1 + 1, 0, none⟩) 2 2] 25)
  have h2 := h2.alloc (.cells #[.slice (some ⟨w.heap.size + 1 + 1 + 1, 0, none⟩) 1 1, .slice (some ⟨w.heap.size + 1 + 1 + 1 + 1, 0, none⟩) 2 2] 25)
  have h3 := h3.alloc (.cells #[.slice (some ⟨w.heap.size + 1 + 1 + 1, 0, none⟩) 1 1, .slice (some ⟨w.heap.size + 1 + 1 + 1 + 1, 0, none⟩) 2 2] 25)
  have h4 := h4.alloc (.cells #[.slice (some ⟨w.heap.size + 1 + 1 + 1, 0, none⟩) 1 1, .slice (some ⟨w.heap.size + 1 + 1 + 1 + 1, 0, none⟩) 2 2] 25)
  refine ⟨⟨h2.cell 0, h2.cell 1, sl_lit flT _ 2 rfl h0 rfl (by omega), sl_lit flI _ 1 rfl h1 rfl (by omega)⟩, ⟨h5.cell 0, h5.cell 1, sl_lit flI _ 1 rfl h3 rfl (by omega), sl_lit flT _ 2 rfl h4 rfl (by omega)⟩, bl, s5⟩
theorem none_safe (b : Bool) : safeM oneL ⟨[false, false], [1]⟩ ⟨[0], [false, b]⟩ = !b := by cases b <;> decide
set_option maxHeartbeats 4000000 in
theorem none_calls (b : Bool) (w : World) : Calls Try.prog 7 #[.bool b] w fun e w' => e = .returned (.bool true) ∧ Below w.heap.size w w' := by
  have hk1 := mk_bool2
  have hk2 := mk_int1
  have HK := Lib.hid (io_ok w false false 1 0 false b)
  unfold ioW at HK
  go_enter Try.func7, Try.ntmps7
  go_wp2_with fail
  clear hk1 hk2
  generalize ((((((w.alloc (.cells #[.bool false, .bool false] 4)).alloc (.cells #[.int .i64 1] 3)).alloc (.cells #[.slice (some ⟨w.heap.size, 0, none⟩) 2 2, .slice (some ⟨w.heap.size + 1, 0, none⟩) 1 1] 28)).alloc (.cells #[.int .i64 0] 3)).alloc (.cells #[.bool false, .bool b] 4)).alloc (.cells #[.slice (some ⟨w.heap.size + 1 + 1 + 1, 0, none⟩) 1 1, .slice (some ⟨w.heap.size + 1 + 1 + 1 + 1, 0, none⟩) 2 2] 25)) = W0 at *
  have HN := Lib.hid HK.out.b
  generalize hgn : w.heap.size = gn at *
  have HGN := Lib.hid hgn
  have i0 := HK.out.i.c0
  have i1 := HK.out.i.c1
  have o0 := HK.out.o.c0
  have o1 := HK.out.o.c1
  rw [hgn] at i0 i1 o0 o1
  have HI := Lib.hid HK.out.i.v
  have HO := Lib.hid HK.out.o.v
  rw [hgn] at HI HO
  clear hgn HK
  have KEEP := Lib.hid (fun (w1 : World) (hb : Below W0.heap.size W0 w1) => (⟨cell_stay hb i0, cell_stay hb i1, cell_stay hb o0, cell_stay hb o1⟩ :
      w1.cell? ⟨gn + 1 + 1, 0, none⟩ = some (.slice (some ⟨gn, 0, none⟩) 2 2) ∧ w1.cell? ⟨gn + 1 + 1, 1, none⟩ = some (.slice (some ⟨gn + 1, 0, none⟩) 1 1) ∧ w1.cell? ⟨gn + 1 + 1 + 1 + 1 + 1, 0, none⟩ = some (.slice (some ⟨gn + 1 + 1 + 1, 0, none⟩) 1 1) ∧ w1.cell? ⟨gn + 1 + 1 + 1 + 1 + 1, 1, none⟩ = some (.slice (some ⟨gn + 1 + 1 + 1 + 1, 0, none⟩) 2 2)))
  have HD := Lib.hid (below_drawn (Below.refl W0.heap.size W0) 1)
  go_region_held3 (fun w1 => w1.cell? ⟨gn + 1 + 1, 0, none⟩ = some (.slice (some ⟨gn, 0, none⟩) 2 2) ∧ w1.cell? ⟨gn + 1 + 1, 1, none⟩ = some (.slice (some ⟨gn + 1, 0, none⟩) 1 1) ∧ w1.cell? ⟨gn + 1 + 1 + 1 + 1 + 1, 0, none⟩ = some (.slice (some ⟨gn + 1 + 1 + 1, 0, none⟩) 1 1) ∧ w1.cell? ⟨gn + 1 + 1 + 1 + 1 + 1, 1, none⟩ = some (.slice (some ⟨gn + 1 + 1 + 1 + 1, 0, none⟩) 2 2))
    (first | exact KEEP.out _ HD.out | exact KEEP.out _ HB6.out | exact KEEP.out _ HB5.out | exact KEEP.out _ HB4.out)
    (first
      | (go_at_call 14; refine (one_calls _).mono ?_; rintro e w4 ⟨B1, B2, B3, B4, rfl, hl4, hb4⟩; have HL4 := Lib.hid hl4; have HB4 := Lib.hid (below_more HD.out hb4); clear hb4 hl4)
      | (go_at_call 13; refine (Safe_calls w4 HL4.out (HI.out.stay HB4.out) (HO.out.stay HB4.out) oneL_ok).mono ?_; rw [none_safe]; rintro e w5 ⟨rfl, hb5⟩; have HB5 := Lib.hid (below_more HB4.out hb5); clear hb5)
      | (go_at_call 12; refine (known_calls _).mono ?_; rintro e w6 ⟨rfl, hb6⟩; have HB6 := Lib.hid (below_more HB5.out hb6); clear hb6)
      | fail)
  go_wp2_with fail
  go_ret
  exact ⟨rfl, below_more (by rw [HGN.out]; exact HN.out) HB6.out⟩
end Go.Proofs.Ytmdggodkkkihhaa
