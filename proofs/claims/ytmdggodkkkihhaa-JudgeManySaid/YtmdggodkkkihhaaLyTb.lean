/- Contract of table.Needs. -/
import Derived.Test.YtmdggodkkkihhaaLyNd
import Derived.StillTailTactics
set_option linter.unusedVariables false
namespace Go.Proofs.Ytmdggodkkkihhaa
open Go.RowKit

/-- A row of the call's own is a slice that holds it. -/
theorem sl_ow {α : Type} {f : Fl α} {w : World} {base : Nat} {e : TypeId} {v : Value} {xs : List α} (h : Ow f w base e v xs) (hs : 0 < f.sz) (hn : xs.length ≤ 140737488351232) : ∃ A c, v = .slice A xs.length c ∧ Sl f w A xs.length c xs := by
  obtain ⟨A, c, rfl, hr⟩ := h.read hs
  rcases h.2 with ⟨e1, h0⟩ | ⟨g, cap, cur, e1, _, _, h1, h2, _⟩
  · injection e1 with e1 e2 e3
    subst e3
    exact ⟨A, 0, rfl, hr, by omega, by omega, hn⟩
  · injection e1 with e1 e2 e3
    subst e3
    exact ⟨A, c, rfl, hr, h1, by simp only [maxLen] at h2; omega, hn⟩
/-- What a row of Needs that is returned is. -/
def NeedsPost (w : World) (xs : List Need) (e : Ending) (w' : World) : Prop := ∃ A n c, e = .returned (.slice A n c) ∧ Sl flN w' A n c xs ∧ Below w.heap.size w w'
set_option maxHeartbeats 2000000 in
theorem Needs_calls (w : World) (L : Lay) (A1 A2 A3 A4 : Option Addr) (n1 c1 n2 c2 n3 c3 n4 c4 : Nat) (hL : LayV w L A1 A2 A3 A4 n1 c1 n2 c2 n3 c3 n4 c4) (r : Nat) (x : Rte) (hr : L.rtes[r]? = some x) (hx : x.points.length + x.flank.length ≤ 8796093022208) :
    Calls Try.prog 26 #[.agg #[.slice A1 n1 c1, .slice A2 n2 c2, .slice A3 n3 c3, .slice A4 n4 c4], .int .i64 r] w (NeedsPost w (x.points ++ x.flank)) := by
  have hlt : r < n4 := by
    have := hL.rtes.len
    have := (List.getElem?_eq_some_iff.1 hr).1
    omega
  have hcap := Nat.le_trans hL.rtes.le hL.rtes.cap
  obtain ⟨b, off, x', P, Q, F, p, pc, q, qc, f, fc, rfl, hx', k0, k1, k2, k3, k4, k5, hv⟩ := hL.rtes.at_ hlt
  obtain rfl : x = x' := by rw [hr] at hx'; exact Option.some.inj hx'
  have hw0 := below_new w (.cells #[.slice A1 n1 c1, .slice A2 n2 c2, .slice A3 n3 c3, .slice (some ⟨b, off, none⟩) n4 c4] 40)
  have hB := Blk.new w #[.slice A1 n1 c1, .slice A2 n2 c2, .slice A3 n3 c3, .slice (some ⟨b, off, none⟩) n4 c4] 40 (0, 0)
  have b3 := hB.cell 3
  simp only [List.getElem?_toArray, List.getElem?_cons_zero, List.getElem?_cons_succ] at b3
  have k4 := cell_stay hw0 k4
  have k5 := cell_stay hw0 k5
  have HV := Lib.hid (hv.stay hw0)
  have HP := Lib.hid hv.points.len
  have HF := Lib.hid hv.flank.len
  clear hL hr hx' k0 k1 k2 k3 hB hv
  go_enter Try.func26, Try.ntmps26
  go_wp2_with fail
  generalize (w.alloc (.cells #[.slice A1 n1 c1, .slice A2 n2 c2, .slice A3 n3 c3, .slice (some ⟨b, off, none⟩) n4 c4] 40)) = w0 at *
  go_still_tail 12, (by kernel_rfl)
  change wpList _ _ _ _ _ w0.drew
  have hd : Below w0.heap.size w0 w0.drew := below_drawn (Below.refl _ _) 1
  have hw2 := below_more hw0 hd
  have HV := Lib.hid (HV.out.stay hd)
  generalize w0.drew = w2 at *
  clear hd hw0 k4 k5 b3
  have hn := below_new w2 (.cells #[.slice Q q qc, .slice F f fc] 45)
  have hB := Blk.new w2 #[.slice Q q qc, .slice F f fc] 45 (0, 0)
  have b0 := hB.cell 0
  have b1 := hB.cell 1
  simp only [List.getElem?_toArray, List.getElem?_cons_zero, List.getElem?_cons_succ] at b0 b1
  have K := Lib.hid (Cat_calls _ w2.heap.size Q F q qc f fc x.points x.flank (HV.out.stay hn).points (HV.out.stay hn).flank b0 b1 (by have := HP.out; have := HF.out; omega))
  go_wp2_with (refine K.out.mono ?_; rintro e w3 ⟨v, rfl, hown, hb⟩)
  go_ret
  obtain ⟨A, c, rfl, hs⟩ := sl_ow hown (by decide) (by rw [List.length_append]; omega)
  exact ⟨_, _, _, rfl, hs, below_more hw2 (below_more hn hb)⟩
end Go.Proofs.Ytmdggodkkkihhaa
