/- Contract of judge.ways. -/
import Derived.Test.YtmdggodkkkihhaaJgW1
set_option linter.unusedVariables false
namespace Go.Proofs.Ytmdggodkkkihhaa
open Go.RowKit

section
variable {L : Lay} {A1 A2 A3 A4 : Option Addr} {n1 c1 n2 c2 n3 c3 n4 c4 : Nat} {I : Inn} {C D : Option Addr} {n c m d : Nat}
theorem any_congr' {α : Type} {p q : α → Bool} : ∀ {xs : List α}, (∀ x ∈ xs, p x = q x) → xs.any p = xs.any q
  | [], _ => rfl
  | x :: t, h => by
    rw [List.any_cons, List.any_cons, h x (List.mem_cons_self ..), any_congr' fun y hy => h y (List.mem_cons_of_mem _ hy)]
set_option maxHeartbeats 8000000 in
theorem Ways_calls (w : World) (hL : LayV w L A1 A2 A3 A4 n1 c1 n2 c2 n3 c3 n4 c4) (hI : InV w I C D n c m d) (hok : AllOk L I) (P : Option Addr) (p pc : Nat) (pr : List Bool) (hP : Sl flT w P p pc pr) (hp : p ≤ 1000000) :
    ∀ (t : List Bool) (s : Nat), pr.drop s = t → s ≤ p → ∀ K, K + t.length ≤ 1000000 → WaysAt w L A1 A2 A3 A4 n1 c1 n2 c2 n3 c3 n4 c4 I C D n c m d P p pc s t K := by
  have hn4 : n4 ≤ 1000000 := by
    have := hL.rtes.len
    have := hok.few
    omega
  intro t
  induction t with
  | nil =>
    intro s hs hsp K hK W X x xc ch hW hch hco hx
    have hpl := hP.len
    have hge : p ≤ s := by
      have := congrArg List.length hs
      rw [List.length_drop, List.length_nil] at this
      omega
    obtain rfl : s = p := by omega
    have hb : Below W.heap.size W (((((W.alloc (.cells #[.slice A1 n1 c1, .slice A2 n2 c2, .slice A3 n3 c3, .slice A4 n4 c4] 40)).alloc (.cells #[.slice C n c, .slice D m d] 28)).alloc (.cells #[.slice P s pc] 23)).alloc (.cells #[.int .i64 s] 3)).alloc (.cells #[.slice X x xc] 22)) :=
      ((((below_new W _).alloc (by simp) _).alloc (by simp; omega) _).alloc (by simp; omega) _).alloc (by simp; omega) _
    clear hL hI hok hP hs hge hch hco hpl hsp
    go_enter Try.func16, Try.ntmps16
    go_wp2_with fail
    go_ret
    exact ⟨rfl, hb⟩
  | cons b t ih =>
    intro s hs hsp K hK W X x xc ch hW hch hco hx
    have hpl := hP.len
    have hlt : s < p := by
      have := congrArg List.length hs
      rw [List.length_drop, List.length_cons] at this
      omega
    have hcap := Nat.le_trans hP.le hP.cap
    obtain ⟨bb, off, y, rfl, hy, cy⟩ := hP.tru hlt
    obtain ⟨e1, e2⟩ : y = b ∧ pr.drop (s + 1) = t := by
      have h1 : pr.drop s = y :: pr.drop (s + 1) := by
        rw [List.drop_eq_getElem_cons (by omega)]
        have := (List.getElem?_eq_some_iff.1 hy).2
        rw [this]
      rw [h1] at hs
      injection hs with h2 h3
      exact ⟨h2, h3⟩
    subst e1
    rw [List.length_cons] at hK
    have ih0 := Lib.hid (ih (s + 1) e2 (by omega) K (by omega))
    have ih1 := Lib.hid (ih (s + 1) e2 (by omega) (K + 1) (by omega))
    have hb : Below W.heap.size W (((((W.alloc (.cells #[.slice A1 n1 c1, .slice A2 n2 c2, .slice A3 n3 c3, .slice A4 n4 c4] 40)).alloc (.cells #[.slice C n c, .slice D m d] 28)).alloc (.cells #[.slice (some ⟨bb, off, none⟩) p pc] 23)).alloc (.cells #[.int .i64 s] 3)).alloc (.cells #[.slice X x xc] 22)) :=
      ((((below_new W _).alloc (by simp) _).alloc (by simp; omega) _).alloc (by simp; omega) _).alloc (by simp; omega) _
    have hB1 := (((((Blk.new W #[.slice A1 n1 c1, .slice A2 n2 c2, .slice A3 n3 c3, .slice A4 n4 c4] 40 (0, 0)).alloc (.cells #[.slice C n c, .slice D m d] 28)).alloc (.cells #[.slice (some ⟨bb, off, none⟩) p pc] 23)).alloc (.cells #[.int .i64 s] 3)).alloc (.cells #[.slice X x xc] 22))
    have hB2 := ((((Blk.at_ (w := W.alloc (.cells #[.slice A1 n1 c1, .slice A2 n2 c2, .slice A3 n3 c3, .slice A4 n4 c4] 40)) (g := W.heap.size + 1) (by simp) #[.slice C n c, .slice D m d] 28 (0, 0))).alloc (.cells #[.slice (some ⟨bb, off, none⟩) p pc] 23)).alloc (.cells #[.int .i64 s] 3)).alloc (.cells #[.slice X x xc] 22)
    have hB3 := (((Blk.at_ (w := (W.alloc (.cells #[.slice A1 n1 c1, .slice A2 n2 c2, .slice A3 n3 c3, .slice A4 n4 c4] 40)).alloc (.cells #[.slice C n c, .slice D m d] 28)) (g := W.heap.size + 2) (by simp) #[.slice (some ⟨bb, off, none⟩) p pc] 23 (0, 0))).alloc (.cells #[.int .i64 s] 3)).alloc (.cells #[.slice X x xc] 22)
    have hB4 := (Blk.at_ (w := ((W.alloc (.cells #[.slice A1 n1 c1, .slice A2 n2 c2, .slice A3 n3 c3, .slice A4 n4 c4] 40)).alloc (.cells #[.slice C n c, .slice D m d] 28)).alloc (.cells #[.slice (some ⟨bb, off, none⟩) p pc] 23)) (g := W.heap.size + 3) (by simp) #[.int .i64 s] 3 (0, 0)).alloc (.cells #[.slice X x xc] 22)
    have hB5 := Blk.at_ (w := (((W.alloc (.cells #[.slice A1 n1 c1, .slice A2 n2 c2, .slice A3 n3 c3, .slice A4 n4 c4] 40)).alloc (.cells #[.slice C n c, .slice D m d] 28)).alloc (.cells #[.slice (some ⟨bb, off, none⟩) p pc] 23)).alloc (.cells #[.int .i64 s] 3)) (g := W.heap.size + 4) (by simp) #[.slice X x xc] 22 (0, 0)
    have l0 := hB1.cell 0
    have l1 := hB1.cell 1
    have l2 := hB1.cell 2
    have l3 := hB1.cell 3
    have i0 := hB2.cell 0
    have i1 := hB2.cell 1
    have p0 := hB3.cell 0
    have s0 := hB4.cell 0
    have x0 := hB5.cell 0
    simp only [List.getElem?_toArray, List.getElem?_cons_zero, List.getElem?_cons_succ] at l0 l1 l2 l3 i0 i1 p0 s0 x0
    have cy := cell_stay (below_more hW hb) cy
    have HL := Lib.hid (LayB.mk l0 l1 l2 l3 (hL.stay (below_more hW hb)))
    have HI := Lib.hid (InB.mk i0 i1 (hI.stay (below_more hW hb)))
    have HC := Lib.hid (hch.stay hb)
    have HO := Lib.hid hco
    have HK := Lib.hid hok
    have HWW := Lib.hid (below_more hW hb)
    have HB := Lib.hid hb
    have hrl : n4 = L.rtes.length := hL.rtes.len.symm
    have HRL := Lib.hid hrl
    have hw1 : Hid (IntKind.i64.wrap ((s : Int) + 1) = (s : Int) + 1) := Lib.hid (by rw [IntKind.wrap_i64]; omega)
    clear hL hI hok hP hs hch hco hpl hB1 hB2 hB3 hB4 hB5 hW hy ih hrl
    go_enter Try.func16, Try.ntmps16
    go_upto_region 1 with fail
    generalize (((((W.alloc (.cells #[.slice A1 n1 c1, .slice A2 n2 c2, .slice A3 n3 c3, .slice A4 n4 c4] 40)).alloc (.cells #[.slice C n c, .slice D m d] 28)).alloc (.cells #[.slice (some ⟨bb, off, none⟩) p pc] 23)).alloc (.cells #[.int .i64 s] 3)).alloc (.cells #[.slice X x xc] 22)) = W0 at *
    generalize hgn : W.heap.size = gn at *
    have HGN := Lib.hid hgn
    clear hgn hb
    cases y with
    | false =>
      go_wp2_with (first
        | (go_at_call 16; refine (ih0.out W0 X x xc ch HWW.out HC.out HO.out hx).mono ?_; rintro e w7 ⟨rfl, hb7⟩)
        | fail)
      go_ret
      exact ⟨rfl, below_more (by rw [HGN.out]; exact HB.out) hb7⟩
    | true =>
      have HE := Lib.hid (Entry_calls W0 L A1 A2 A3 A4 n1 c1 n2 c2 n3 c3 n4 c4 HL.out.v hn4 s)
      go_wp2_with (first
        | (go_at_call 20; refine HE.out.mono ?_; rintro e w2 ⟨A5, n5, c5, rfl, hq5, hb5⟩; have HB5 := Lib.hid hb5; have HQ5 := Lib.hid hq5; clear hb5 hq5)
        | (go_at_call 19; refine (CFI_calls w2 A5 n5 c5 (entryTo L.rtes s n4) HQ5.out 21 #[.pointer (some ⟨gn + 4, 0, none⟩), .pointer (some ⟨gn, 0, none⟩), .pointer (some ⟨gn + 1, 0, none⟩), .pointer (some ⟨gn + 2, 0, none⟩), .pointer (some ⟨gn + 3, 0, none⟩)] enter_w1 (fun r => !(ch.any fun q => conflictI L r q) && clearI L I r && waysM L I (s + 1) t (ch ++ [r]))
            (fun W2 r hr hb => by
              obtain ⟨j, _, rfl, hj, _, _⟩ := entryTo_mem hr
              have hb2 := below_more HB5.out hb
              exact (W1_calls w W2 (below_more HWW.out hb2) gn (gn + 1) (gn + 2) (gn + 3) (gn + 4) _ p pc s t (K + 1) (by omega) (by omega) (HL.out.stay hb2) (HI.out.stay hb2) (cell_stay hb2 p0) (cell_stay hb2 s0) X x xc ch (cell_stay hb2 x0) (HC.out.stay hb2) HO.out (by omega) HK.out ih1.out (j : Int) (by omega) (by have := HRL.out; omega)).mono fun e w' h => ⟨h.1, below_more hb h.2⟩)).mono ?_; rintro e w3 ⟨rfl, hb6⟩)
        | fail)
      go_ret
      refine ⟨ret_bool ?_, below_more (by rw [HGN.out]; exact HB.out) (below_more HB5.out hb6)⟩
      rw [waysM, if_pos rfl, ← HRL.out]
end
end Go.Proofs.Ytmdggodkkkihhaa
