/- Contracts of judge.isLocked and judge.Held. -/
import Derived.Test.YtmdggodkkkihhaaJgBa
set_option linter.unusedVariables false
namespace Go.Proofs.Ytmdggodkkkihhaa
open Go.RowKit

theorem enter_il1 (args : Array Value) (w : World) : (callFunc 25 args).run Try.prog w = .ok (.enter 25 args) w := by kernel_rfl
/-- Has a signal a route that is Locked? -/
def lockedM (L : Lay) (rs : List Rs) (s : Int) : Bool := (entryTo L.rtes s L.rtes.length).any fun i => decide ((rs[i.toNat]?.map Rs.m).getD 0 = 2)
set_option maxHeartbeats 2000000 in
theorem Il1_calls (W : World) (g : Nat) (R : Option Addr) (k kc : Nat) (rs : List Rs) (hg : W.cell? ⟨g, 0, none⟩ = some (.slice R k kc)) (hR : Sl flR W R k kc rs) (i : Int) (h0 : 0 ≤ i) (h1 : i < rs.length) :
    Calls Try.prog 25 #[.int .i64 i, .pointer (some ⟨g, 0, none⟩)] W fun e w' => e = .returned (.bool (decide ((rs[i.toNat]?.map Rs.m).getD 0 = 2))) ∧ Below W.heap.size W w' := by
  obtain ⟨j, rfl⟩ : ∃ j : Nat, i = j := ⟨i.toNat, by omega⟩
  have hj : j < k := by have := hR.len; omega
  have hcap := Nat.le_trans hR.le hR.cap
  obtain ⟨b, off, x, rfl, hx, cx, _, _, _⟩ := hR.rs hj
  have HF : Hid ((rs[j]?.map Rs.m).getD 0 = x.m) := Lib.hid (by rw [hx]; rfl)
  clear hR hx h0 h1
  go_enter Try.func25, Try.ntmps25
  go_wp2_with fail
  go_ret
  exact ⟨ret_bool (by rw [Int.toNat_natCast, HF.out]; simp [BEq.beq]), Below.refl _ _⟩
section
variable {L : Lay} {A1 A2 A3 A4 : Option Addr} {n1 c1 n2 c2 n3 c3 n4 c4 : Nat} {I : Inn} {C D : Option Addr} {n c m d : Nat} {O : Ou} {E F : Option Addr} {p pc q qc : Nat}
set_option maxHeartbeats 4000000 in
theorem IsLocked_calls (w : World) (hL : LayV w L A1 A2 A3 A4 n1 c1 n2 c2 n3 c3 n4 c4) (hn : n4 ≤ 1000000) (R : Option Addr) (k kc : Nat) (rs : List Rs) (hR : Sl flR w R k kc rs) (hk : rs.length = L.rtes.length) (s : Nat) :
    Calls Try.prog 17 #[.agg #[.slice A1 n1 c1, .slice A2 n2 c2, .slice A3 n3 c3, .slice A4 n4 c4], .slice R k kc, .int .i64 s] w fun e w' => e = .returned (.bool (lockedM L rs s)) ∧ Below w.heap.size w w' := by
  have hb : Below w.heap.size w ((w.alloc (.cells #[.slice A1 n1 c1, .slice A2 n2 c2, .slice A3 n3 c3, .slice A4 n4 c4] 40)).alloc (.cells #[.slice R k kc] 34)) := (below_new w _).alloc (by simp) _
  have hB1 := (Blk.new w #[.slice A1 n1 c1, .slice A2 n2 c2, .slice A3 n3 c3, .slice A4 n4 c4] 40 (0, 0)).alloc (.cells #[.slice R k kc] 34)
  have hB2 := Blk.at_ (w := w.alloc (.cells #[.slice A1 n1 c1, .slice A2 n2 c2, .slice A3 n3 c3, .slice A4 n4 c4] 40)) (g := w.heap.size + 1) (by simp) #[.slice R k kc] 34 (0, 0)
  have l0 := hB1.cell 0
  have l1 := hB1.cell 1
  have l2 := hB1.cell 2
  have l3 := hB1.cell 3
  have r0 := hB2.cell 0
  simp only [List.getElem?_toArray, List.getElem?_cons_zero, List.getElem?_cons_succ] at l0 l1 l2 l3 r0
  have HL := Lib.hid (hL.stay hb)
  have HR := Lib.hid (hR.stay hb)
  have HK := Lib.hid hk
  have HB := Lib.hid hb
  have HN : Hid (n4 = L.rtes.length) := Lib.hid hL.rtes.len.symm
  clear hL hR hk hB1 hB2
  go_enter Try.func17, Try.ntmps17
  go_upto_region 1 with fail
  generalize ((w.alloc (.cells #[.slice A1 n1 c1, .slice A2 n2 c2, .slice A3 n3 c3, .slice A4 n4 c4] 40)).alloc (.cells #[.slice R k kc] 34)) = W0 at *
  generalize hgn : w.heap.size = gn at *
  have HGN := Lib.hid hgn
  clear hgn hb
  go_wp2_with (first
    | (go_at_call 20; refine (Entry_calls W0 L A1 A2 A3 A4 n1 c1 n2 c2 n3 c3 n4 c4 HL.out hn s).mono ?_; rintro e w2 ⟨A5, n5, c5, rfl, hq5, hb5⟩; have HB5 := Lib.hid hb5; have HQ5 := Lib.hid hq5; clear hb5 hq5)
    | (go_at_call 19; refine (CFI_calls w2 A5 n5 c5 (entryTo L.rtes s n4) HQ5.out 25 #[.pointer (some ⟨gn + 1, 0, none⟩)] enter_il1 (fun i => decide ((rs[i.toNat]?.map Rs.m).getD 0 = 2))
        (fun W2 r hr hb => by
          obtain ⟨j, _, rfl, hj, _, _⟩ := entryTo_mem hr
          have hb2 := below_more HB5.out hb
          exact (Il1_calls W2 (gn + 1) R k kc rs (cell_stay hb2 r0) (HR.out.stay hb2) (j : Int) (by omega) (by have := HK.out; have := HN.out; omega)).mono fun e w' h => ⟨h.1, below_more hb h.2⟩)).mono ?_; rintro e w3 ⟨rfl, hb6⟩)
    | fail)
  go_ret
  refine ⟨ret_bool ?_, below_more (by rw [HGN.out]; exact HB.out) (below_more HB5.out hb6)⟩
  unfold lockedM
  rw [← HN.out]
/-- Is a point driven as a route bars? -/
def hBad (L : Lay) (O : Ou) (rs : List Rs) (j : Nat) (i : Nat) : Bool := match L.rtes[i]?, rs[i]?, L.pts[j]? with
  | some x, some r, some y => barsM x r j y.sec (O.drive.getD j 0)
  | _, _, _ => false
def hBads (L : Lay) (O : Ou) (rs : List Rs) (j : Nat) : Bool := decide (O.drive.getD j 0 ≠ 0) && (List.range rs.length).any (hBad L O rs j)
def heldM (L : Lay) (I : Inn) (O : Ou) (rs : List Rs) : Bool :=
  decide (rs.length = L.rtes.length) && safeM L I O && !((List.range O.proceed.length).any fun s => O.proceed.getD s false && !lockedM L rs s) && !((List.range O.drive.length).any (hBads L O rs))
end
end Go.Proofs.Ytmdggodkkkihhaa
