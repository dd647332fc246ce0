/- Contract of judge.Safe. -/
import Derived.Test.YtmdggodkkkihhaaJgWy
set_option linter.unusedVariables false
namespace Go.Proofs.Ytmdggodkkkihhaa
open Go.RowKit

/-- What stands in a layout is there. -/
structure LayOk (L : Lay) : Prop where
  few : L.rtes.length ≤ 1000000
  sigs : L.sigs.length ≤ 1000000
  path : ∀ x ∈ L.rtes, ∀ a ∈ x.path, 0 ≤ a ∧ a < L.secs.length
  need : ∀ x ∈ L.rtes, ∀ a ∈ x.points ++ x.flank, 0 ≤ a.p ∧ a.p < L.pts.length
  needs : ∀ x ∈ L.rtes, x.points.length + x.flank.length ≤ 8796093022208
  pts : ∀ x ∈ L.pts, 0 ≤ x.sec ∧ x.sec < L.secs.length
theorem LayOk.all {L : Lay} (h : LayOk L) {I : Inn} (h1 : I.occ.length = L.secs.length) (h2 : I.lies.length = L.pts.length) : AllOk L I :=
  ⟨h.few, fun x hx => ⟨fun a ha => by rw [h1]; exact h.path x hx a ha, fun a ha => by rw [h2]; exact h.need x hx a ha, h.needs x hx⟩⟩
/-- Is a point driven that a train is over? -/
def dBad (L : Lay) (I : Inn) (O : Ou) (j : Nat) : Bool := decide (O.drive.getD j 0 ≠ 0) && I.occ.getD ((L.pts[j]?.map Pt.sec).getD 0).toNat false
def safeM (L : Lay) (I : Inn) (O : Ou) : Bool :=
  decide (I.occ.length = L.secs.length) && decide (I.lies.length = L.pts.length) && decide (O.drive.length = L.pts.length) && decide (O.proceed.length = L.sigs.length) &&
    !((List.range O.drive.length).any (dBad L I O)) && waysM L I 0 O.proceed []
theorem range_any_at {p : Nat → Bool} {n k : Nat} (hk : k < n) (h : p k = true) : (List.range n).any p = true := List.any_eq_true.2 ⟨k, List.mem_range.2 hk, h⟩
theorem range_any_no {p : Nat → Bool} {n : Nat} (h : ∀ j, j < n → p j = false) : (List.range n).any p = false := by
  rw [List.any_eq_false]
  intro k hk
  rw [h k (List.mem_range.1 hk)]
  decide
theorem no_more {p : Nat → Bool} {k : Nat} (h : ∀ j, j < k → p j = false) (hk : p k = false) : ∀ j, j < k + 1 → p j = false := by
  intro j hj
  rcases Nat.lt_or_ge j k with h' | h'
  · exact h j h'
  · obtain rfl : j = k := by omega
    exact hk
/-- A box with what the field is told. -/
structure OuB (w : World) (g : Nat) (O : Ou) (A B : Option Addr) (n c m d : Nat) : Prop where
  c0 : w.cell? ⟨g, 0, none⟩ = some (.slice A n c)
  c1 : w.cell? ⟨g, 1, none⟩ = some (.slice B m d)
  v : OuV w O A B n c m d
theorem OuB.stay {w w1 : World} {g : Nat} {O : Ou} {A B : Option Addr} {n c m d : Nat} (h : OuB w g O A B n c m d) (hb : Below w.heap.size w w1) : OuB w1 g O A B n c m d := ⟨cell_stay hb h.c0, cell_stay hb h.c1, h.v.stay hb⟩
section
variable {L : Lay} {A1 A2 A3 A4 : Option Addr} {n1 c1 n2 c2 n3 c3 n4 c4 : Nat} {I : Inn} {C D : Option Addr} {n c m d : Nat} {O : Ou} {E F : Option Addr} {p pc q qc : Nat}
set_option maxHeartbeats 8000000 in
theorem Safe_calls (w : World) (hL : LayV w L A1 A2 A3 A4 n1 c1 n2 c2 n3 c3 n4 c4) (hI : InV w I C D n c m d) (hO : OuV w O E F p pc q qc) (hok : LayOk L) :
    Calls Try.prog 13 #[.agg #[.slice A1 n1 c1, .slice A2 n2 c2, .slice A3 n3 c3, .slice A4 n4 c4], .agg #[.slice C n c, .slice D m d], .agg #[.slice E p pc, .slice F q qc]] w fun e w' => e = .returned (.bool (safeM L I O)) ∧ Below w.heap.size w w' := by
  have e1 := hL.secs.len
  have e2 := hL.pts.len
  have e3 := hL.sigs.len
  have e5 := hI.occ.len
  have e6 := hI.lies.len
  have e7 := hO.drive.len
  have e8 := hO.proceed.len
  have hbw : Below w.heap.size w (((w.alloc (.cells #[.slice A1 n1 c1, .slice A2 n2 c2, .slice A3 n3 c3, .slice A4 n4 c4] 40)).alloc (.cells #[.slice C n c, .slice D m d] 28)).alloc (.cells #[.slice E p pc, .slice F q qc] 25)) :=
    ((below_new w _).alloc (by simp) _).alloc (by simp; omega) _
  by_cases h1 : n = n1
  case neg =>
    have h1' : ((n : Int) != (n1 : Int)) = true := by simp; omega
    have HF : Hid (safeM L I O = false) := Lib.hid (by unfold safeM; rw [decide_eq_false (by omega)]; simp)
    clear h1 hL hI hO hok e1 e2 e3 e5 e6 e7 e8
    go_enter Try.func13, Try.ntmps13
    go_wp2_with fail
    go_ret
    exact ⟨ret_bool (by rw [HF.out]), hbw⟩
  case pos =>
  by_cases h2 : m = n2
  case neg =>
    have h1' : ((n : Int) != (n1 : Int)) = false := by simp; omega
    have h2' : ((m : Int) != (n2 : Int)) = true := by simp; omega
    have HF : Hid (safeM L I O = false) := Lib.hid (by unfold safeM; rw [decide_eq_false (p := I.lies.length = L.pts.length) (by omega)]; simp)
    clear h1 h2 hL hI hO hok e1 e2 e3 e5 e6 e7 e8
    go_enter Try.func13, Try.ntmps13
    go_wp2_with fail
    go_ret
    exact ⟨ret_bool (by rw [HF.out]), hbw⟩
  case pos =>
  by_cases h3 : p = n2
  case neg =>
    have h1' : ((n : Int) != (n1 : Int)) = false := by simp; omega
    have h2' : ((m : Int) != (n2 : Int)) = false := by simp; omega
    have h3' : ((p : Int) != (n2 : Int)) = true := by simp; omega
    have HF : Hid (safeM L I O = false) := Lib.hid (by unfold safeM; rw [decide_eq_false (p := O.drive.length = L.pts.length) (by omega)]; simp)
    clear h1 h2 h3 hL hI hO hok e1 e2 e3 e5 e6 e7 e8
    go_enter Try.func13, Try.ntmps13
    go_wp2_with fail
    go_ret
    exact ⟨ret_bool (by rw [HF.out]), hbw⟩
  case pos =>
  by_cases h4 : q = n3
  case neg =>
    have h1' : ((n : Int) != (n1 : Int)) = false := by simp; omega
    have h2' : ((m : Int) != (n2 : Int)) = false := by simp; omega
    have h3' : ((p : Int) != (n2 : Int)) = false := by simp; omega
    have h4' : ((q : Int) != (n3 : Int)) = true := by simp; omega
    have HF : Hid (safeM L I O = false) := Lib.hid (by unfold safeM; rw [decide_eq_false (p := O.proceed.length = L.sigs.length) (by omega)]; simp)
    clear h1 h2 h3 h4 hL hI hO hok e1 e2 e3 e5 e6 e7 e8
    go_enter Try.func13, Try.ntmps13
    go_wp2_with fail
    go_ret
    exact ⟨ret_bool (by rw [HF.out]), hbw⟩
  case pos =>
    have h1' : ((n : Int) != (n1 : Int)) = false := by simp; omega
    have h2' : ((m : Int) != (n2 : Int)) = false := by simp; omega
    have h3' : ((p : Int) != (n2 : Int)) = false := by simp; omega
    have h4' : ((q : Int) != (n3 : Int)) = false := by simp; omega
    have HF : Hid (safeM L I O = (!((List.range p).any (dBad L I O)) && waysM L I 0 O.proceed [])) := Lib.hid (by
      unfold safeM
      rw [decide_eq_true (by omega : I.occ.length = L.secs.length), decide_eq_true (by omega : I.lies.length = L.pts.length), decide_eq_true (by omega : O.drive.length = L.pts.length), decide_eq_true (by omega : O.proceed.length = L.sigs.length), e7]
      simp)
    have hall := hok.all (I := I) (by omega) (by omega)
    have hq : q ≤ 1000000 := by have := hok.sigs; omega
    have hB1 := (((Blk.new w #[.slice A1 n1 c1, .slice A2 n2 c2, .slice A3 n3 c3, .slice A4 n4 c4] 40 (0, 0)).alloc (.cells #[.slice C n c, .slice D m d] 28)).alloc (.cells #[.slice E p pc, .slice F q qc] 25))
    have hB2 := ((Blk.at_ (w := w.alloc (.cells #[.slice A1 n1 c1, .slice A2 n2 c2, .slice A3 n3 c3, .slice A4 n4 c4] 40)) (g := w.heap.size + 1) (by simp) #[.slice C n c, .slice D m d] 28 (0, 0))).alloc (.cells #[.slice E p pc, .slice F q qc] 25)
    have hB3 := Blk.at_ (w := (w.alloc (.cells #[.slice A1 n1 c1, .slice A2 n2 c2, .slice A3 n3 c3, .slice A4 n4 c4] 40)).alloc (.cells #[.slice C n c, .slice D m d] 28)) (g := w.heap.size + 2) (by simp) #[.slice E p pc, .slice F q qc] 25 (0, 0)
    have l0 := hB1.cell 0
    have l1 := hB1.cell 1
    have l2 := hB1.cell 2
    have l3 := hB1.cell 3
    have i0 := hB2.cell 0
    have i1 := hB2.cell 1
    have o0 := hB3.cell 0
    have o1 := hB3.cell 1
    simp only [List.getElem?_toArray, List.getElem?_cons_zero, List.getElem?_cons_succ] at l0 l1 l2 l3 i0 i1 o0 o1
    have HL := Lib.hid (LayB.mk l0 l1 l2 l3 (hL.stay hbw))
    have HI := Lib.hid (InB.mk i0 i1 (hI.stay hbw))
    have HO := Lib.hid (OuB.mk o0 o1 (hO.stay hbw))
    have HK := Lib.hid hok
    have HA := Lib.hid hall
    have HE := Lib.hid (And.intro e1 (And.intro e2 (And.intro e5 (And.intro e7 (And.intro h1 (And.intro h3 e8))))))
    have HBW := Lib.hid hbw
    have hpc := Nat.le_trans hO.drive.le hO.drive.cap
    clear h1 h2 h3 h4 hL hI hO hok hall hB1 hB2 hB3 e1 e2 e3 e5 e6 e7 e8
    go_enter Try.func13, Try.ntmps13
    go_wp2_with fail
    generalize (((w.alloc (.cells #[.slice A1 n1 c1, .slice A2 n2 c2, .slice A3 n3 c3, .slice A4 n4 c4] 40)).alloc (.cells #[.slice C n c, .slice D m d] 28)).alloc (.cells #[.slice E p pc, .slice F q qc] 25)) = W0 at *
    generalize hgn : w.heap.size = gn at *
    have HGN := Lib.hid hgn
    clear hgn hbw h1' h2' h3' h4'
    go_loopw [46] (fun i wr => ∃ k : Nat, k ≤ p ∧ i = .int .i64 k ∧ Hid (Below W0.heap.size W0 wr ∧ ∀ j, j < k → dBad L I O j = false)) (fun i _ => p - (intOf i).toNat)
    case atStart => exact ⟨0, by omega, rfl, Lib.hid ⟨Below.refl _ _, fun j hj => absurd hj (by omega)⟩⟩
    case round =>
      obtain ⟨k, hk, rfl, hr⟩ := hrel
      have l0 := cell_stay hr.out.1 l0
      have l1 := cell_stay hr.out.1 l1
      have l2 := cell_stay hr.out.1 l2
      have l3 := cell_stay hr.out.1 l3
      have i0 := cell_stay hr.out.1 i0
      have i1 := cell_stay hr.out.1 i1
      have o0 := cell_stay hr.out.1 o0
      have o1 := cell_stay hr.out.1 o1
      by_cases hlt : k < p
      · obtain ⟨be, oe, v, rfl, hv, ce⟩ := HO.out.v.drive.int hlt
        obtain ⟨bp, op, x, rfl, hx, _, cx⟩ := HL.out.v.pts.pt (j := k) (by have := HE.out; omega)
        have hxm := HK.out.pts x (List.mem_of_getElem? hx)
        obtain ⟨se, hse⟩ : ∃ se : Nat, x.sec = se := ⟨x.sec.toNat, by omega⟩
        obtain ⟨bo, oo, y, rfl, hy, cy⟩ := HI.out.v.occ.tru (j := se) (by have := HE.out; omega)
        have ce := cell_stay hr.out.1 ce
        have cx := cell_stay hr.out.1 cx
        have cy := cell_stay hr.out.1 cy
        have hkn2 : (k : Int) < n2 := by have := HE.out; omega
        have hsn : (se : Int) < n := by have := HE.out; omega
        have hnn : (n : Int) ≤ 9223372036854775807 := by have h1 := HI.out.v.occ.le; have h2 := HI.out.v.occ.cap; omega
        have hn2 : (n2 : Int) ≤ 9223372036854775807 := by have h1 := HL.out.v.pts.le; have h2 := HL.out.v.pts.cap; omega
        have hd : dBad L I O k = (decide (v ≠ 0) && y) := by
          unfold dBad
          rw [getD_of hv, hx, Option.map_some, Option.getD_some, hse, Int.toNat_natCast, getD_of hy]
        have HD := Lib.hid hd
        rw [hse] at cx
        clear hv hx hxm hse hy hd
        by_cases hv0 : v = 0
        · have HN := Lib.hid (no_more hr.out.2 (by rw [HD.out, hv0]; rfl))
          have hv1 : (v != 0) = false := by simp [hv0]
          clear hv0
          go_wp2_with fail
          go_quiet (fail)
          go_wp2_with fail
          go_roundw
          case rel => exact ⟨k + 1, by omega, by go_num, Lib.hid ⟨below_drawn hr.out.1 _, HN.out⟩⟩
          case measure => simp [intOf]; omega
        · have hv1 : (v != 0) = true := by simp [hv0]
          cases y with
          | false =>
            have HN := Lib.hid (no_more hr.out.2 (by rw [HD.out]; simp))
            clear hv0
            go_wp2_with fail
            go_quiet (fail)
            go_wp2_with fail
            go_roundw
            case rel => exact ⟨k + 1, by omega, by go_num, Lib.hid ⟨below_drawn hr.out.1 _, HN.out⟩⟩
            case measure => simp [intOf]; omega
          | true =>
            have HY := Lib.hid (range_any_at hlt (show dBad L I O k = true by rw [HD.out]; simp [hv0]))
            clear hv0
            go_wp2_with fail
            go_quiet (fail)
            go_wp2_with fail
            go_ret
            exact ⟨ret_bool (by rw [HF.out, HY.out]; rfl), below_more (by rw [HGN.out]; exact HBW.out) (below_drawn hr.out.1 _)⟩
      · obtain rfl : k = p := by omega
        have HY := Lib.hid (range_any_no hr.out.2)
        have HB := Lib.hid hr.out.1
        have K := Lib.hid (Ways_calls wr (HL.out.v.stay HB.out) (HI.out.v.stay HB.out) HA.out F q qc O.proceed (HO.out.v.proceed.stay HB.out) hq O.proceed 0 rfl (by omega) 0 (by have := HE.out.2.2.2.2.2.2; omega) wr none 0 0 [] (Below.refl _ _) ⟨⟨⟨rfl, by omega, fun h => absurd h (by omega)⟩, by omega, by omega, by omega⟩, .inl ⟨rfl, rfl, rfl⟩⟩ (fun q hq => by cases hq) (by omega))
        clear hlt
        go_wp2_with (first
          | (go_at_call 16; refine K.out.mono ?_; rintro e w7 ⟨rfl, hb7⟩)
          | fail)
        go_ret
        exact ⟨ret_bool (by rw [HF.out, HY.out]; rfl), below_more (by rw [HGN.out]; exact HBW.out) (below_more HB.out hb7)⟩
end
end Go.Proofs.Ytmdggodkkkihhaa
