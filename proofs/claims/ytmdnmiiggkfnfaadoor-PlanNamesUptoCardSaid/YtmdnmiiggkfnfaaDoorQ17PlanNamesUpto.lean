/- Texts put together for a claim. -/
import Derived.Test.YtmdnmiiggkfnfaaDoorQ16PlanNamesUpto
import Derived.Deep.DeepCutAuto
import Derived.Deep.CutBlock
import Derived.Test.YtmdnmiiggkfnfaaDoorLater
/- Contracts: the reference's In, needs. -/
set_option linter.unusedVariables false
set_option linter.unusedSimpArgs false
namespace Go.Proofs.YtmdnmiiggkfnfaaDoor
open Go.RowKit

def inB (path : List Int) (v : Int) : Bool := path.any fun z => decide (v = z)
theorem inB_yes {xs : List Int} {j : Nat} {v : Int} (h : xs[j]? = some v) : inB xs v = true := List.any_eq_true.2 ⟨v, List.mem_of_getElem? h, by simp⟩
theorem inB_no {xs : List Int} {v : Int} (h : ∀ (j : Nat) (x : Int), xs[j]? = some x → x ≠ v) : inB xs v = false := by
  unfold inB
  rw [List.any_eq_false]
  intro x hx
  obtain ⟨j, hj⟩ := List.mem_iff_getElem?.1 hx
  simp only [decide_eq_true_eq]
  exact fun e => h j x hj e.symm
set_option maxRecDepth 20000 in
set_option maxHeartbeats 2000000 in
theorem RefIn_calls (w : World) (A : Option Addr) (n c : Nat) (xs : List Int) (hA : Sl flI w A n c xs) (v : Int) :
    Calls Tryd.prog 43 #[.slice A n c, .int .i64 v] w fun e w' => e = .returned (.bool (inB xs v)) ∧ w = w' := by
  have HL := Lib.hid hA.len
  have HA := Lib.hid hA
  have hz := hA.sz
  have hcap := Nat.le_trans hA.le hA.cap
  clear hA
  go_enter Tryd.func43, Tryd.ntmps43
  go_wp2_with fail
  go_loop [5] (fun i => ∃ k : Nat, k ≤ n ∧ i = .int .i64 k ∧ Hid (∀ (j : Nat) (x : Int), j < k → xs[j]? = some x → x ≠ v)) (fun i => n - (intOf i).toNat)
  case atStart => exact ⟨0, by omega, rfl, Lib.hid (fun j x h => absurd h (by omega))⟩
  case round =>
    obtain ⟨k, hk, rfl, hr⟩ := hrel
    by_cases hlt : k < n
    · obtain ⟨b, off, x, rfl, hx, hc⟩ := HA.out.int hlt
      by_cases hv : x = v
      · subst hv
        have HX := Lib.hid hx
        clear hx
        have he : (x == x) = true := by simp
        go_wp2_with fail
        go_ret
        exact ⟨ret_bool (by rw [inB_yes HX.out]), rfl⟩
      · have he : (x == v) = false := by simp [hv]
        have HN : Hid (∀ (j : Nat) (y : Int), j < k + 1 → xs[j]? = some y → y ≠ v) := Lib.hid (fun j y hj hy => by
          rcases Nat.lt_or_ge j k with h1 | h1
          · exact hr.out j y h1 hy
          · obtain rfl : j = k := by omega
            rw [hx] at hy
            cases hy
            exact hv)
        clear hv hx
        go_wp2_with fail
        go_round
        case rel => exact ⟨k + 1, by omega, by go_num, HN⟩
        case measure => simp [intOf]; omega
    · obtain rfl : k = n := by omega
      have HE := Lib.hid (inB_no (xs := xs) (v := v) (fun j x hx => hr.out j x (by have := (List.getElem?_eq_some_iff.1 hx).1; have := HL.out; omega) hx))
      clear hlt hr
      go_wp2_with fail
      go_ret
      exact ⟨ret_bool (by rw [HE.out]), rfl⟩

theorem RefInB_calls (w : World) (A : Option Addr) (n c : Nat) (xs : List Int) (hA : Sl flI w A n c xs) (v : Int) :
    Calls Tryd.prog 43 #[.slice A n c, .int .i64 v] w fun e w' => e = .returned (.bool (inB xs v)) ∧ Below w.heap.size w w' :=
  (RefIn_calls w A n c xs hA v).mono (by rintro e w' ⟨h, rfl⟩; exact ⟨h, Below.refl _ _⟩)
def secOf (L : Lay) (p : Int) : Int := ((L.pts[p.toNat]?).map Pt.sec).getD 0
def nd0 : Need := ⟨0, false⟩
/-- The j-th need of a row is wrong. -/
def needBad (L : Lay) (ns : List Need) (path : List Int) (inn : Bool) (j : Nat) : Bool :=
  decide ((ns.getD j nd0).p < 0) || decide ((L.pts.length : Int) ≤ (ns.getD j nd0).p) || (decide (0 < j) && decide ((ns.getD j nd0).p ≤ (ns.getD (j - 1) nd0).p)) || (inB path (secOf L (ns.getD j nd0).p) != inn)
def needsM (L : Lay) (ns : List Need) (path : List Int) (inn : Bool) : Bool := !((List.range ns.length).any (needBad L ns path inn))
theorem needs_stop {L : Lay} {ns : List Need} {path : List Int} {inn : Bool} {j : Nat} (hj : j < ns.length) (h : needBad L ns path inn j = true) : needsM L ns path inn = false := by
  unfold needsM
  rw [List.any_eq_true.2 ⟨j, List.mem_range.2 hj, h⟩]
  rfl
theorem needs_all {L : Lay} {ns : List Need} {path : List Int} {inn : Bool} (h : ∀ j, j < ns.length → needBad L ns path inn j = false) : needsM L ns path inn = true := by
  unfold needsM
  rw [List.any_eq_false.2 (fun j hj => by rw [h j (List.mem_range.1 hj)]; decide)]
  rfl
set_option maxRecDepth 20000 in
set_option maxHeartbeats 4000000 in
theorem RefNeeds_calls (w : World) (L : Lay) (A1 A2 A3 A4 : Option Addr) (n1 c1 n2 c2 n3 c3 n4 c4 : Nat) (hL : LayV w L A1 A2 A3 A4 n1 c1 n2 c2 n3 c3 n4 c4) (Q P : Option Addr) (q qc p pc : Nat) (ns : List Need) (path : List Int) (hQ : Sl flN w Q q qc ns) (hP : Sl flI w P p pc path) (inn : Bool) :
    Calls Tryd.prog 44 #[.agg #[.slice A1 n1 c1, .slice A2 n2 c2, .slice A3 n3 c3, .slice A4 n4 c4], .slice Q q qc, .slice P p pc, .bool inn] w fun e w' => e = .returned (.bool (needsM L ns path inn)) ∧ Below w.heap.size w w' := by
  have hbw := below_new w (.cells #[.slice A1 n1 c1, .slice A2 n2 c2, .slice A3 n3 c3, .slice A4 n4 c4] 26)
  have hB := Blk.new w #[.slice A1 n1 c1, .slice A2 n2 c2, .slice A3 n3 c3, .slice A4 n4 c4] 26 (0, 0)
  have b1 := hB.cell 1
  simp only [List.getElem?_toArray, List.getElem?_cons_zero, List.getElem?_cons_succ] at b1
  have hL := hL.stay hbw
  have hQ := hQ.stay hbw
  have hP := hP.stay hbw
  have z2 := hL.pts.sz
  have zq := hQ.sz
  have q2 := Nat.le_trans hL.pts.le hL.pts.cap
  have qq := Nat.le_trans hQ.le hQ.cap
  have HLEN := Lib.hid (And.intro hL.pts.len hQ.len)
  have HI := Lib.hid (fun v => RefIn_calls _ P p pc path hP v)
  have HL := Lib.hid hL
  have HQ := Lib.hid hQ
  have HBW := Lib.hid hbw
  clear hL hB hQ hP
  go_enter Tryd.func44, Tryd.ntmps44
  go_wp2_with fail
  generalize (w.alloc (.cells #[.slice A1 n1 c1, .slice A2 n2 c2, .slice A3 n3 c3, .slice A4 n4 c4] 26)) = w0 at *
  generalize hgn : w.heap.size = gn at *
  have HGN := Lib.hid hgn
  clear hgn hbw
  go_loop [9] (fun i => ∃ k : Nat, k ≤ q ∧ i = .int .i64 k ∧ Hid (∀ j, j < k → needBad L ns path inn j = false)) (fun i => q - (intOf i).toNat)
  case atStart => exact ⟨0, by omega, rfl, Lib.hid (fun j h => absurd h (by omega))⟩
  case round =>
    obtain ⟨k, hk, rfl, hr⟩ := hrel
    by_cases hlt : k < q
    · obtain ⟨b, off, x, rfl, hx, hc, hc2⟩ := HQ.out.need hlt
      have HX : Hid (ns.getD k nd0 = x) := Lib.hid (by rw [List.getD_eq_getElem?_getD, hx]; rfl)
      clear hx
      have HSTOP := Lib.hid (fun (h : needBad L ns path inn k = true) => needs_stop (by have := HLEN.out; omega) h)
      by_cases h1 : x.p < 0
      · have HE := Lib.hid (HSTOP.out (by unfold needBad; rw [HX.out, decide_eq_true h1]; rfl))
        go_wp2_with fail
        go_ret
        exact ⟨ret_bool (by rw [HE.out]), by rw [HGN.out]; exact HBW.out⟩
      by_cases h2 : (n2 : Int) ≤ x.p
      · have HE := Lib.hid (HSTOP.out (by unfold needBad; rw [HX.out, HLEN.out.1, decide_eq_true h2]; simp))
        go_wp2_with fail
        go_ret
        exact ⟨ret_bool (by rw [HE.out]), by rw [HGN.out]; exact HBW.out⟩
      obtain ⟨m, hm⟩ : ∃ m : Nat, x.p = m := ⟨x.p.toNat, by omega⟩
      have hm2 : m < n2 := by omega
      obtain ⟨b', off', y, rfl, hy, d1, d2⟩ := HL.out.pts.pt hm2
      have HS : Hid (secOf L (m : Int) = y.sec) := Lib.hid (by unfold secOf; rw [Int.toNat_natCast, hy]; rfl)
      clear hy
      obtain ⟨xp, xr⟩ := x
      simp only at hm h1 h2 hc hc2
      subst hm
      by_cases hk0 : k = 0
      · have HM : Hid (needBad L ns path inn k = (inB path y.sec != inn)) := Lib.hid (by
          unfold needBad
          rw [HX.out]
          simp only [HS.out]
          subst hk0
          rw [decide_eq_false h1, decide_eq_false (by rw [HLEN.out.1]; exact h2)]
          simp)
        subst hk0
        simp only [Nat.zero_mul, Nat.add_zero] at hc hc2
        have KI := Lib.hid (HI.out y.sec)
        generalize inB path y.sec = z at *
        cases z <;> cases inn
        · have HN : Hid (∀ j, j < 0 + 1 → needBad L ns path false j = false) := Lib.hid (fun j hj => by
            rcases Nat.lt_or_ge j 0 with h | h
            · exact hr.out j h
            · obtain rfl : j = 0 := by omega
              rw [HM.out]; rfl)
          go_wp2_with (first
            | (go_at_call 43; refine KI.out.mono ?_; rintro e w' ⟨rfl, rfl⟩)
            | fail)
          go_round
          case rel => exact ⟨0 + 1, by omega, by go_num, HN⟩
          case measure => simp [intOf]; omega
        · have HE := Lib.hid (HSTOP.out (by rw [HM.out]; rfl))
          go_wp2_with (first
            | (go_at_call 43; refine KI.out.mono ?_; rintro e w' ⟨rfl, rfl⟩)
            | fail)
          go_ret
          exact ⟨ret_bool (by rw [HE.out]), by rw [HGN.out]; exact HBW.out⟩
        · have HE := Lib.hid (HSTOP.out (by rw [HM.out]; rfl))
          go_wp2_with (first
            | (go_at_call 43; refine KI.out.mono ?_; rintro e w' ⟨rfl, rfl⟩)
            | fail)
          go_ret
          exact ⟨ret_bool (by rw [HE.out]), by rw [HGN.out]; exact HBW.out⟩
        · have HN : Hid (∀ j, j < 0 + 1 → needBad L ns path true j = false) := Lib.hid (fun j hj => by
            rcases Nat.lt_or_ge j 0 with h | h
            · exact hr.out j h
            · obtain rfl : j = 0 := by omega
              rw [HM.out]; rfl)
          go_wp2_with (first
            | (go_at_call 43; refine KI.out.mono ?_; rintro e w' ⟨rfl, rfl⟩)
            | fail)
          go_round
          case rel => exact ⟨0 + 1, by omega, by go_num, HN⟩
          case measure => simp [intOf]; omega
      · obtain ⟨k, rfl⟩ : ∃ m, k = m + 1 := ⟨k - 1, by omega⟩
        obtain ⟨b2, off2, x2, e2, hx2, f1, f2⟩ := HQ.out.need (j := k) (by omega)
        obtain ⟨rfl, rfl⟩ : b2 = b ∧ off2 = off := by injection e2 with e2; injection e2 with e3 e4; exact ⟨e3.symm, e4.symm⟩
        have HX2 : Hid (ns.getD k nd0 = x2) := Lib.hid (by rw [List.getD_eq_getElem?_getD, hx2]; rfl)
        clear hx2 e2
        have HM : Hid (needBad L ns path inn (k + 1) = (decide ((m : Int) ≤ x2.p) || (inB path y.sec != inn))) := Lib.hid (by
          unfold needBad
          rw [HX.out, Nat.add_sub_cancel, HX2.out]
          simp only [HS.out]
          rw [decide_eq_false h1, decide_eq_false (by rw [HLEN.out.1]; exact h2)]
          simp)
        have hk1 : (0 : Int) < ((k + 1 : Nat) : Int) := by omega
        have hg : off2 + (k + 1) * 2 = off2 + (k * 2 + 2) := by omega
        by_cases h3 : (m : Int) ≤ x2.p
        · have HE := Lib.hid (HSTOP.out (by rw [HM.out, decide_eq_true h3]; rfl))
          clear hg
          go_wp2_with fail
          go_ret
          exact ⟨ret_bool (by rw [HE.out]), by rw [HGN.out]; exact HBW.out⟩
        have HM : Hid (needBad L ns path inn (k + 1) = (inB path y.sec != inn)) := Lib.hid (by rw [HM.out, decide_eq_false h3]; rfl)
        have KI := Lib.hid (HI.out y.sec)
        generalize inB path y.sec = z at *
        clear hg
        cases z <;> cases inn
        · have HN : Hid (∀ j, j < (k + 1) + 1 → needBad L ns path false j = false) := Lib.hid (fun j hj => by
            rcases Nat.lt_or_ge j (k + 1) with h | h
            · exact hr.out j h
            · obtain rfl : j = (k + 1) := by omega
              rw [HM.out]; rfl)
          go_wp2_with (first
            | (go_at_call 43; refine KI.out.mono ?_; rintro e w' ⟨rfl, rfl⟩)
            | fail)
          go_round
          case rel => exact ⟨(k + 1) + 1, by omega, by go_num, HN⟩
          case measure => simp [intOf]; omega
        · have HE := Lib.hid (HSTOP.out (by rw [HM.out]; rfl))
          go_wp2_with (first
            | (go_at_call 43; refine KI.out.mono ?_; rintro e w' ⟨rfl, rfl⟩)
            | fail)
          go_ret
          exact ⟨ret_bool (by rw [HE.out]), by rw [HGN.out]; exact HBW.out⟩
        · have HE := Lib.hid (HSTOP.out (by rw [HM.out]; rfl))
          go_wp2_with (first
            | (go_at_call 43; refine KI.out.mono ?_; rintro e w' ⟨rfl, rfl⟩)
            | fail)
          go_ret
          exact ⟨ret_bool (by rw [HE.out]), by rw [HGN.out]; exact HBW.out⟩
        · have HN : Hid (∀ j, j < (k + 1) + 1 → needBad L ns path true j = false) := Lib.hid (fun j hj => by
            rcases Nat.lt_or_ge j (k + 1) with h | h
            · exact hr.out j h
            · obtain rfl : j = (k + 1) := by omega
              rw [HM.out]; rfl)
          go_wp2_with (first
            | (go_at_call 43; refine KI.out.mono ?_; rintro e w' ⟨rfl, rfl⟩)
            | fail)
          go_round
          case rel => exact ⟨(k + 1) + 1, by omega, by go_num, HN⟩
          case measure => simp [intOf]; omega
    · obtain rfl : k = q := by omega
      have HE := Lib.hid (needs_all (L := L) (ns := ns) (path := path) (inn := inn) (fun j hj => hr.out j (by have := HLEN.out; omega)))
      clear hlt hr
      go_wp2_with fail
      go_ret
      exact ⟨ret_bool (by rw [HE.out]), by rw [HGN.out]; exact HBW.out⟩
end Go.Proofs.YtmdnmiiggkfnfaaDoor

/- Contract: the reference's route. -/
set_option linter.unusedVariables false
set_option linter.unusedSimpArgs false
namespace Go.Proofs.YtmdnmiiggkfnfaaDoor
open Go.RowKit

/-- A layout, boxed. -/
structure LayX (w : World) (g : Nat) (L : Lay) (A1 A2 A3 A4 : Option Addr) (n1 c1 n2 c2 n3 c3 n4 c4 : Nat) : Prop where
  b0 : w.cell? ⟨g, 0, none⟩ = some (.slice A1 n1 c1)
  b1 : w.cell? ⟨g, 1, none⟩ = some (.slice A2 n2 c2)
  b2 : w.cell? ⟨g, 2, none⟩ = some (.slice A3 n3 c3)
  b3 : w.cell? ⟨g, 3, none⟩ = some (.slice A4 n4 c4)
  v : LayV w L A1 A2 A3 A4 n1 c1 n2 c2 n3 c3 n4 c4
theorem LayX.stay {w w1 : World} {g : Nat} {L : Lay} {A1 A2 A3 A4 : Option Addr} {n1 c1 n2 c2 n3 c3 n4 c4 : Nat} (h : LayX w g L A1 A2 A3 A4 n1 c1 n2 c2 n3 c3 n4 c4) (hb : Below w.heap.size w w1) : LayX w1 g L A1 A2 A3 A4 n1 c1 n2 c2 n3 c3 n4 c4 :=
  ⟨cell_stay hb h.b0, cell_stay hb h.b1, cell_stay hb h.b2, cell_stay hb h.b3, h.v.stay hb⟩
/-- A route, boxed. -/
structure RteX (w : World) (g : Nat) (x : Rte) (P Q F : Option Addr) (p pc q qc f fc : Nat) : Prop where
  r0 : w.cell? ⟨g, 0, none⟩ = some (.string x.name)
  r1 : w.cell? ⟨g, 1, none⟩ = some (.int .i64 x.frm)
  r2 : w.cell? ⟨g, 2, none⟩ = some (.int .i64 x.dest)
  r3 : w.cell? ⟨g, 3, none⟩ = some (.slice P p pc)
  r4 : w.cell? ⟨g, 4, none⟩ = some (.slice Q q qc)
  r5 : w.cell? ⟨g, 5, none⟩ = some (.slice F f fc)
  v : RteV w x P Q F p pc q qc f fc
theorem RteX.stay {w w1 : World} {g : Nat} {x : Rte} {P Q F : Option Addr} {p pc q qc f fc : Nat} (h : RteX w g x P Q F p pc q qc f fc) (hb : Below w.heap.size w w1) : RteX w1 g x P Q F p pc q qc f fc :=
  ⟨cell_stay hb h.r0, cell_stay hb h.r1, cell_stay hb h.r2, cell_stay hb h.r3, cell_stay hb h.r4, cell_stay hb h.r5, h.v.stay hb⟩
theorem Sl.take {α : Type} {f : Fl α} {w : World} {A : Option Addr} {n c : Nat} {xs : List α} (h : Sl f w A n c xs) {k : Nat} (hk : k ≤ n) : Sl f w A k c (xs.take k) := by
  obtain ⟨⟨h1, h2, h3⟩, h4, h5, h6⟩ := h
  refine ⟨⟨by rw [List.length_take]; omega, by omega, fun hn => ?_⟩, by omega, h5, by omega⟩
  obtain ⟨b, off, e, hc⟩ := h3 (by omega)
  refine ⟨b, off, e, fun j x hx => hc j x ?_⟩
  rw [List.getElem?_take] at hx
  split at hx
  · exact hx
  · cases hx
def pathBad (L : Lay) (path : List Int) (j : Nat) : Bool := decide (path.getD j 0 < 0) || decide ((L.secs.length : Int) ≤ path.getD j 0) || inB (path.take j) (path.getD j 0)
def inCount (L : Lay) (path : List Int) : Nat := (L.pts.filter fun p => inB path p.sec).length
/-- The ends and the length of a route. -/
def endsOk (L : Lay) (x : Rte) : Bool := decide (0 ≤ x.frm) && decide (x.frm < L.sigs.length) && decide (0 ≤ x.dest) && decide (x.dest < L.sigs.length) && !decide (x.frm = x.dest) && decide (1 ≤ x.path.length) && decide (x.path.length ≤ 5)
/-- May a route be? -/
def routeM (L : Lay) (x : Rte) : Bool := endsOk L x && !((List.range x.path.length).any (pathBad L x.path)) && decide (x.points.length = inCount L x.path) && needsM L x.points x.path true && needsM L x.flank x.path false
theorem route_ends {L : Lay} {x : Rte} (h : endsOk L x = false) : routeM L x = false := by unfold routeM; rw [h]; rfl
theorem route_path {L : Lay} {x : Rte} {j : Nat} (hj : j < x.path.length) (h : pathBad L x.path j = true) : routeM L x = false := by
  unfold routeM
  rw [List.any_eq_true.2 ⟨j, List.mem_range.2 hj, h⟩]
  simp
theorem route_rest {L : Lay} {x : Rte} (h : endsOk L x = true) (hp : ∀ j, j < x.path.length → pathBad L x.path j = false) : routeM L x = (decide (x.points.length = inCount L x.path) && needsM L x.points x.path true && needsM L x.flank x.path false) := by
  unfold routeM
  rw [h, List.any_eq_false.2 (fun j hj => by rw [hp j (List.mem_range.1 hj)]; decide)]
  simp
theorem count_step {L : Lay} {path : List Int} {k : Nat} {y : Pt} (hy : L.pts[k]? = some y) : ((L.pts.take (k + 1)).filter fun p => inB path p.sec).length = ((L.pts.take k).filter fun p => inB path p.sec).length + (if inB path y.sec then 1 else 0) := by
  rw [List.take_add_one, hy, List.filter_append, List.length_append]
  congr 1
  simp only [Option.toList_some, List.filter_cons, List.filter_nil]
  split <;> simp_all
theorem count_le (L : Lay) (path : List Int) (k : Nat) : ((L.pts.take k).filter fun p => inB path p.sec).length ≤ L.pts.length :=
  Nat.le_trans (List.length_filter_le _ _) (by rw [List.length_take]; omega)
section
variable {L : Lay} {A1 A2 A3 A4 P Q F : Option Addr} {n1 c1 n2 c2 n3 c3 n4 c4 p pc q qc f fc : Nat} {x : Rte}
set_option maxRecDepth 20000 in
set_option maxHeartbeats 8000000 in
theorem RefRoute_calls (w : World) (hL : LayV w L A1 A2 A3 A4 n1 c1 n2 c2 n3 c3 n4 c4) (hR : RteV w x P Q F p pc q qc f fc) :
    Calls Tryd.prog 25 #[.agg #[.slice A1 n1 c1, .slice A2 n2 c2, .slice A3 n3 c3, .slice A4 n4 c4], .agg #[.string x.name, .int .i64 x.frm, .int .i64 x.dest, .slice P p pc, .slice Q q qc, .slice F f fc]] w fun e w' => e = .returned (.bool (routeM L x)) ∧ Below w.heap.size w w' := by
  have hbw : Below w.heap.size w ((w.alloc (.cells #[.slice A1 n1 c1, .slice A2 n2 c2, .slice A3 n3 c3, .slice A4 n4 c4] 26)).alloc (.cells #[.string x.name, .int .i64 x.frm, .int .i64 x.dest, .slice P p pc, .slice Q q qc, .slice F f fc] 44)) := (below_new w _).alloc (by simp) _
  have hB := (Blk.new w #[.slice A1 n1 c1, .slice A2 n2 c2, .slice A3 n3 c3, .slice A4 n4 c4] 26 (0, 0)).alloc (.cells #[.string x.name, .int .i64 x.frm, .int .i64 x.dest, .slice P p pc, .slice Q q qc, .slice F f fc] 44)
  have hB2 := Blk.at_ (w := w.alloc (.cells #[.slice A1 n1 c1, .slice A2 n2 c2, .slice A3 n3 c3, .slice A4 n4 c4] 26)) (g := w.heap.size + 1) (by simp) #[.string x.name, .int .i64 x.frm, .int .i64 x.dest, .slice P p pc, .slice Q q qc, .slice F f fc] 44 (0, 0)
  have HX : Hid (LayX _ w.heap.size L A1 A2 A3 A4 n1 c1 n2 c2 n3 c3 n4 c4) := Lib.hid ⟨hB.cell 0, hB.cell 1, hB.cell 2, hB.cell 3, hL.stay hbw⟩
  have HY : Hid (RteX _ (w.heap.size + 1) x P Q F p pc q qc f fc) := Lib.hid ⟨hB2.cell 0, hB2.cell 1, hB2.cell 2, hB2.cell 3, hB2.cell 4, hB2.cell 5, hR.stay hbw⟩
  have b0 := HX.out.b0
  have b1 := HX.out.b1
  have b2 := HX.out.b2
  have b3 := HX.out.b3
  have r0 := HY.out.r0
  have r1 := HY.out.r1
  have r2 := HY.out.r2
  have r3 := HY.out.r3
  have r4 := HY.out.r4
  have r5 := HY.out.r5
  have z1 := hL.secs.sz
  have z2 := hL.pts.sz
  have z3 := hL.sigs.sz
  have zp := hR.path.sz
  have q1 := Nat.le_trans hL.secs.le hL.secs.cap
  have q2 := Nat.le_trans hL.pts.le hL.pts.cap
  have q3 := Nat.le_trans hL.sigs.le hL.sigs.cap
  have qp := Nat.le_trans hR.path.le hR.path.cap
  have qq := Nat.le_trans hR.points.le hR.points.cap
  have lp := hR.path.le
  have cp := hR.path.cap
  have HLEN := Lib.hid (And.intro hL.secs.len (And.intro hL.pts.len (And.intro hL.sigs.len (And.intro hR.path.len hR.points.len))))
  have HBW := Lib.hid hbw
  have hstop := fun h => route_ends (L := L) (x := x) h
  have HSTOP := Lib.hid hstop
  have HEQ : Hid (endsOk L x = (decide (0 ≤ x.frm) && decide (x.frm < n3) && decide (0 ≤ x.dest) && decide (x.dest < n3) && !decide (x.frm = x.dest) && decide (1 ≤ p) && decide (p ≤ 5))) := Lib.hid (by
    unfold endsOk
    rw [HLEN.out.2.2.1, HLEN.out.2.2.2.1])
  clear hL hR hB hB2 hbw hstop
  obtain ⟨xn, xf, xt, xp, xq, xl⟩ := x
  simp only at *
  by_cases h1 : xf < 0
  · have HE := Lib.hid (HSTOP.out (by rw [HEQ.out, decide_eq_false (by omega)]; rfl))
    go_enter Tryd.func25, Tryd.ntmps25
    go_wp2_with fail
    go_ret
    exact ⟨ret_bool (by rw [HE.out]), HBW.out⟩
  by_cases h2 : (n3 : Int) ≤ xf
  · have HE := Lib.hid (HSTOP.out (by rw [HEQ.out, decide_eq_false (p := xf < n3) (by omega)]; simp))
    go_enter Tryd.func25, Tryd.ntmps25
    go_wp2_with fail
    go_ret
    exact ⟨ret_bool (by rw [HE.out]), HBW.out⟩
  by_cases h3 : xt < 0
  · have HE := Lib.hid (HSTOP.out (by rw [HEQ.out, decide_eq_false (p := 0 ≤ xt) (by omega)]; simp))
    go_enter Tryd.func25, Tryd.ntmps25
    go_wp2_with fail
    go_ret
    exact ⟨ret_bool (by rw [HE.out]), HBW.out⟩
  by_cases h4 : (n3 : Int) ≤ xt
  · have HE := Lib.hid (HSTOP.out (by rw [HEQ.out, decide_eq_false (p := xt < n3) (by omega)]; simp))
    go_enter Tryd.func25, Tryd.ntmps25
    go_wp2_with fail
    go_ret
    exact ⟨ret_bool (by rw [HE.out]), HBW.out⟩
  by_cases h5 : xf = xt
  · have HE := Lib.hid (HSTOP.out (by rw [HEQ.out, decide_eq_true h5]; simp))
    have e5 : (xf == xf) = true := by simp
    subst h5
    go_enter Tryd.func25, Tryd.ntmps25
    go_wp2_with fail
    go_ret
    exact ⟨ret_bool (by rw [HE.out]), HBW.out⟩
  have e5 : (xf == xt) = false := by simp [h5]
  by_cases h6 : p < 1
  · have HE := Lib.hid (HSTOP.out (by rw [HEQ.out, decide_eq_false (p := 1 ≤ p) (by omega)]; simp))
    have h6' : (p : Int) < 1 := by omega
    have h5 := Lib.hid h5
    go_enter Tryd.func25, Tryd.ntmps25
    go_wp2_with fail
    go_ret
    exact ⟨ret_bool (by rw [HE.out]), HBW.out⟩
  by_cases h7 : 5 < p
  · have HE := Lib.hid (HSTOP.out (by rw [HEQ.out, decide_eq_false (p := p ≤ 5) (by omega)]; simp))
    have h7' : (5 : Int) < p := by omega
    have h5 := Lib.hid h5
    go_enter Tryd.func25, Tryd.ntmps25
    go_wp2_with fail
    go_ret
    exact ⟨ret_bool (by rw [HE.out]), HBW.out⟩
  have HOK : Hid (endsOk L ⟨xn, xf, xt, xp, xq, xl⟩ = true) := Lib.hid (by
    rw [HEQ.out, decide_eq_true (p := 0 ≤ xf) (by omega), decide_eq_true (p := xf < n3) (by omega), decide_eq_true (p := 0 ≤ xt) (by omega), decide_eq_true (p := xt < n3) (by omega), decide_eq_false h5, decide_eq_true (p := 1 ≤ p) (by omega), decide_eq_true (p := p ≤ 5) (by omega)]
    rfl)
  have h5 := Lib.hid h5
  go_enter Tryd.func25, Tryd.ntmps25
  go_wp2_with fail
  generalize ((w.alloc (.cells #[.slice A1 n1 c1, .slice A2 n2 c2, .slice A3 n3 c3, .slice A4 n4 c4] 26)).alloc (.cells #[.string xn, .int .i64 xf, .int .i64 xt, .slice P p pc, .slice Q q qc, .slice F f fc] 44)) = w0 at *
  generalize hgn : w.heap.size = gn at *
  have HGN := Lib.hid hgn
  clear hgn
  go_loopw [5] (fun i wr => ∃ k : Nat, k ≤ p ∧ i = .int .i64 k ∧ Hid (Below w0.heap.size w0 wr ∧ ∀ j, j < k → pathBad L xp j = false)) (fun i _ => p - (intOf i).toNat)
  case atStart => exact ⟨0, by omega, rfl, Lib.hid ⟨Below.refl _ _, fun j h => absurd h (by omega)⟩⟩
  case round =>
    obtain ⟨k, hk, rfl, hr⟩ := hrel
    have r3 := cell_stay hr.out.1 r3
    have b0 := cell_stay hr.out.1 b0
    have HY := Lib.hid (HY.out.stay hr.out.1)
    have HB := Lib.hid (below_more (by rw [HGN.out]; exact HBW.out) hr.out.1)
    by_cases hlt : k < p
    · obtain ⟨b, off, v, rfl, hv, hc⟩ := HY.out.v.path.int hlt
      have KI := Lib.hid (fun q : Later wr => RefInB_calls q.w1 _ k pc _ ((HY.out.v.path.take (Nat.le_of_lt hlt)).stay q.hb) v)
      simp only at hv KI
      have HM : Hid (pathBad L xp k = (decide (v < 0) || decide ((n1 : Int) ≤ v) || inB (xp.take k) v)) := Lib.hid (by
        unfold pathBad
        rw [List.getD_eq_getElem?_getD, hv, HLEN.out.1]
        rfl)
      have HSTOP := Lib.hid (fun (h : pathBad L xp k = true) => route_path (L := L) (x := ⟨xn, xf, xt, xp, xq, xl⟩) (j := k) (by show k < xp.length; have := HLEN.out; omega) h)
      have HR := Lib.hid hr.out.2
      have HB1 := Lib.hid hr.out.1
      have r3 := later_cell r3
      have b0 := later_cell b0
      have hc := later_cell hc
      have j0 : (0 : Int) ≤ (k : Int) := by omega
      have j1 : (k : Int) ≤ (pc : Int) := by omega
      clear hv hr
      by_cases v1 : v < 0
      · have g1 : decide (v < 0) = true := decide_eq_true v1
        have HE := Lib.hid (HSTOP.out (by rw [HM.out, decide_eq_true v1]; rfl))
        go_wp2_with fail
        refine wp_region_later (by kernel_rfl) (by kernel_rfl) ?_
        repeat (go_big_quiet_step (first
          | (go_at_call 43; rename_i q; exact later_call q (KI.out q))
          | fail))
        refine wpQuiet_nil ?_
        intro q0
        go_wp2_with fail
        go_ret
        exact ⟨ret_bool (by rw [HE.out]), below_more HB.out q0.hb⟩
      have g1 : decide (v < 0) = false := decide_eq_false v1
      by_cases v2 : (n1 : Int) ≤ v
      · have g2 : decide ((n1 : Int) ≤ v) = true := decide_eq_true v2
        have HE := Lib.hid (HSTOP.out (by rw [HM.out, decide_eq_true v2]; simp))
        go_wp2_with fail
        refine wp_region_later (by kernel_rfl) (by kernel_rfl) ?_
        repeat (go_big_quiet_step (first
          | (go_at_call 43; rename_i q; exact later_call q (KI.out q))
          | fail))
        refine wpQuiet_nil ?_
        intro q0
        go_wp2_with fail
        go_ret
        exact ⟨ret_bool (by rw [HE.out]), below_more HB.out q0.hb⟩
      have g2 : decide ((n1 : Int) ≤ v) = false := decide_eq_false v2
      have HM : Hid (pathBad L xp k = inB (xp.take k) v) := Lib.hid (by rw [HM.out, decide_eq_false v1, decide_eq_false v2]; rfl)
      generalize inB (xp.take k) v = z at *
      cases z with
      | true =>
        have HE := Lib.hid (HSTOP.out HM.out)
        go_wp2_with fail
        refine wp_region_later (by kernel_rfl) (by kernel_rfl) ?_
        repeat (go_big_quiet_step (first
          | (go_at_call 43; rename_i q; exact later_call q (KI.out q))
          | fail))
        refine wpQuiet_nil ?_
        intro q0
        go_wp2_with fail
        go_ret
        exact ⟨ret_bool (by rw [HE.out]), below_more HB.out q0.hb⟩
      | false =>
        have HN : Hid (∀ j, j < k + 1 → pathBad L xp j = false) := Lib.hid (fun j hj => by
          rcases Nat.lt_or_ge j k with h | h
          · exact HR.out j h
          · obtain rfl : j = k := by omega
            exact HM.out)
        go_wp2_with fail
        refine wp_region_later (by kernel_rfl) (by kernel_rfl) ?_
        repeat (go_big_quiet_step (first
          | (go_at_call 43; rename_i q; exact later_call q (KI.out q))
          | fail))
        refine wpQuiet_nil ?_
        intro q0
        go_wp2_with fail
        go_roundw
        case rel => exact ⟨k + 1, by omega, by go_num, Lib.hid ⟨below_more HB1.out q0.hb, HN.out⟩⟩
        case measure => simp [intOf]; omega
    · obtain rfl : k = p := by omega
      have HRT := Lib.hid (route_rest (L := L) (x := ⟨xn, xf, xt, xp, xq, xl⟩) HOK.out (fun j hj => hr.out.2 j (by have h : j < xp.length := hj; have := HLEN.out; omega)))
      have HX := Lib.hid (HX.out.stay hr.out.1)
      have b1 := HX.out.b1
      clear b0 r3 r0 r1 r2 r4 r5 b2 b3 e5 h1 h2 h3 h4 h6 h7
      have r3 := HY.out.r3
      simp only at HRT
      clear hr hlt
      go_wp2_with fail
      generalize hw5 : wr = w5 at *
      clear hw5
      go_loopw [6, 7] (fun t i wr => ∃ m : Nat, m ≤ n2 ∧ i = .int .i64 m ∧ t = .int .i64 ((L.pts.take m).filter fun p => inB xp p.sec).length ∧ Hid (Below w5.heap.size w5 wr)) (fun _ i _ => n2 - (intOf i).toNat)
      case atStart => exact ⟨0, by omega, rfl, rfl, Lib.hid (Below.refl _ _)⟩
      case round =>
        obtain ⟨m, hm, rfl, rfl, hr⟩ := hrel
        have hcl := count_le L xp m
        have hl2 := HLEN.out.2.1
        have hcn : ((L.pts.take m).filter fun p => inB xp p.sec).length ≤ n2 := by omega
        clear hcl hl2
        generalize hcc : ((L.pts.take m).filter fun p => inB xp p.sec).length = cc at *
        have HCC := Lib.hid hcc
        clear hcc
        by_cases hlt : m < n2
        · have HXw := Lib.hid (HX.out.stay hr.out)
          have HYw := Lib.hid (HY.out.stay hr.out)
          obtain ⟨b, off, y, rfl, hy, d1, d2⟩ := HXw.out.v.pts.pt hlt
          have KI := Lib.hid (fun q : Later wr => RefInB_calls q.w1 _ _ pc _ (HYw.out.v.path.stay q.hb) y.sec)
          simp only at KI
          have HST := Lib.hid (count_step (L := L) (path := xp) (k := m) hy)
          have b1 := HXw.out.b1
          have r3L := later_cell HYw.out.r3
          have b1L := later_cell HXw.out.b1
          have d2L := later_cell d2
          have HB1 := Lib.hid hr.out
          clear hy hr
          rw [HCC.out] at HST
          generalize inB xp y.sec = z at *
          cases z with
          | true =>
            have HC1 : Hid (((L.pts.take (m + 1)).filter fun p => inB xp p.sec).length = cc + 1) := Lib.hid HST.out
            go_wp2_with fail
            refine wp_region_later (by kernel_rfl) (by kernel_rfl) ?_
            repeat (go_big_quiet_step (first
              | (go_at_call 43; rename_i q; exact later_call q (KI.out q))
              | fail))
            refine wpQuiet_nil ?_
            intro q0
            go_wp2_with fail
            go_roundw
            case rel => exact ⟨m + 1, by omega, by go_num, by rw [HC1.out]; go_num, Lib.hid (below_more HB1.out q0.hb)⟩
            case measure => simp [intOf]; omega
          | false =>
            have HC1 : Hid (((L.pts.take (m + 1)).filter fun p => inB xp p.sec).length = cc) := Lib.hid HST.out
            go_wp2_with fail
            refine wp_region_later (by kernel_rfl) (by kernel_rfl) ?_
            repeat (go_big_quiet_step (first
              | (go_at_call 43; rename_i q; exact later_call q (KI.out q))
              | fail))
            refine wpQuiet_nil ?_
            intro q0
            go_wp2_with fail
            go_roundw
            case rel => exact ⟨m + 1, by omega, by go_num, by rw [HC1.out], Lib.hid (below_more HB1.out q0.hb)⟩
            case measure => simp [intOf]; omega
        · have b1 := cell_stay hr.out HX.out.b1
          obtain rfl : m = n2 := by omega
          have HCI : Hid (inCount L xp = cc) := Lib.hid (by
            unfold inCount
            rw [← HCC.out, List.take_of_length_le (by have := HLEN.out; omega)])
          have HXw := Lib.hid (HX.out.stay hr.out)
          have HYw := Lib.hid (HY.out.stay hr.out)
          have HB := Lib.hid (below_more HB.out hr.out)
          have r3 := HYw.out.r3
          have r4 := HYw.out.r4
          have r5 := HYw.out.r5
          have b0 := HXw.out.b0
          have b1 := HXw.out.b1
          have b2 := HXw.out.b2
          have b3 := HXw.out.b3
          have KN1 := Lib.hid (RefNeeds_calls wr L _ _ _ _ _ _ _ _ _ _ _ _ HXw.out.v _ _ _ _ _ _ _ _ HYw.out.v.points HYw.out.v.path true)
          have KN2 := Lib.hid (fun (W : World) (hb : Below wr.heap.size wr W) => RefNeeds_calls W L _ _ _ _ _ _ _ _ _ _ _ _ (HXw.out.v.stay hb) _ _ _ _ _ _ _ _ (HYw.out.v.flank.stay hb) (HYw.out.v.path.stay hb) false)
          simp only at KN1 KN2 r3 r4 r5
          have HRT : Hid (routeM L ⟨xn, xf, xt, xp, xq, xl⟩ = (decide (q = cc) && needsM L xq xp true && needsM L xl xp false)) := Lib.hid (by
            rw [HRT.out, HCI.out, HLEN.out.2.2.2.2])
          clear hlt hr
          by_cases he : q = cc
          · rw [decide_eq_true he] at HRT
            subst he
            generalize needsM L xq xp true = na at *
            cases na with
            | false =>
              go_wp2_with (first
                | (go_at_call 44; refine KN1.out.mono ?_; rintro e w6 ⟨rfl, hb6⟩)
                | fail)
              go_ret
              exact ⟨ret_bool (by rw [HRT.out]; rfl), below_more HB.out hb6⟩
            | true =>
              have HRT : Hid (routeM L ⟨xn, xf, xt, xp, xq, xl⟩ = needsM L xl xp false) := Lib.hid (by rw [HRT.out]; rfl)
              generalize needsM L xl xp false = nb at *
              go_wp2_with (first
                | (go_at_call 44; (with_reducible refine KN1.out.mono ?_); rintro e w6 ⟨rfl, hb6⟩; have HB6 := Lib.hid hb6; have r3 := cell_stay hb6 r3; have r5 := cell_stay hb6 r5; have b0 := cell_stay hb6 b0; have b1 := cell_stay hb6 b1; have b2 := cell_stay hb6 b2; have b3 := cell_stay hb6 b3; clear hb6)
                | (go_at_call 44; (with_reducible refine (KN2.out w6 HB6.out).mono ?_); rintro e w7 ⟨rfl, hb7⟩)
                | fail)
              go_ret
              exact ⟨ret_bool (by rw [HRT.out]), below_more (below_more HB.out HB6.out) hb7⟩
          · have e3 : ¬ ((q : Int) = (cc : Int)) := by omega
            rw [decide_eq_false he] at HRT
            clear he
            go_wp2_with fail
            go_ret
            exact ⟨ret_bool (by rw [HRT.out]; rfl), HB.out⟩
end
end Go.Proofs.YtmdnmiiggkfnfaaDoor

/- Contract of 'size': how large a layout is. -/
set_option linter.unusedVariables false
set_option linter.unusedSimpArgs false
namespace Go.Proofs.YtmdnmiiggkfnfaaDoor
open Go.RowKit

/-- No name is longer. -/
structure NmOk (L : Lay) (m : Nat) : Prop where
  secs : ∀ x ∈ L.secs, x.size ≤ m
  pts : ∀ x ∈ L.pts, x.name.size ≤ m
  sigs : ∀ x ∈ L.sigs, x.size ≤ m
  rtes : ∀ x ∈ L.rtes, x.name.size ≤ m
theorem rds_all {α : Type} {k : Kd α} {w : World} {A : Option Addr} {n : Nat} {xs : List α} {p : α → Prop} (h : RdS k w A n xs) (hp : ∀ x cs, k.K w x cs → p x) : ∀ x ∈ xs, p x := by
  intro x hx
  obtain ⟨h1, h2, h3⟩ := h
  obtain ⟨j, hj⟩ := List.mem_iff_getElem?.1 hx
  have hlt : j < xs.length := (List.getElem?_eq_some_iff.1 hj).1
  obtain ⟨b, off, _, hc⟩ := h3 (by omega)
  obtain ⟨cs, hk, _⟩ := hc j x hj
  exact hp x cs hk
theorem lay_names {w : World} {L : Lay} {cs : List Value} (h : kLay.K w L cs) : NmOk L 140737488351232 := by
  obtain ⟨_, _, rfl, ⟨A, n, c, _, _, _, h1⟩, _, _, rfl, ⟨A2, n2, c2, _, _, _, h2⟩, _, _, rfl, ⟨A3, n3, c3, _, _, _, h3⟩, _, _, rfl, ⟨A4, n4, c4, _, _, _, h4⟩, rfl⟩ := h
  refine ⟨rds_all h1 (fun x cs hk => hk.2), rds_all h2 (fun x cs hk => ?_), rds_all h3 (fun x cs hk => hk.2), rds_all h4 (fun x cs hk => ?_)⟩
  · obtain ⟨_, _, rfl, ⟨_, hs⟩, _⟩ := hk
    exact hs
  · obtain ⟨_, _, rfl, ⟨_, hs⟩, _⟩ := hk
    exact hs
/-- It is small. -/
structure SzOk (L : Lay) : Prop where
  nm : NmOk L 3000
  len : L.secs.length + L.pts.length + L.sigs.length + L.rtes.length < 3000
def SizePost (w : World) (L : Lay) (e : Ending) (w' : World) : Prop := ∃ n : Nat, e = .returned (.int .i64 n) ∧ (n < 3000 → SzOk L) ∧ Below w.heap.size w w'
/-- What is known of the first k. -/
def Few {α : Type} (sz : α → Nat) (xs : List α) (k : Nat) : Prop := ∀ j x, j < k → xs[j]? = some x → sz x ≤ 3000
theorem Few.zero {α : Type} (sz : α → Nat) (xs : List α) : Few sz xs 0 := fun j x h => absurd h (by omega)
theorem Few.more {α : Type} {sz : α → Nat} {xs : List α} {k : Nat} (h : Few sz xs k) {y : α} (hy : xs[k]? = some y) (hs : sz y ≤ 3000) : Few sz xs (k + 1) := by
  intro j x hj hx
  rcases Nat.lt_or_ge j k with h1 | h1
  · exact h j x h1 hx
  · obtain rfl : j = k := by omega
    rw [hy] at hx
    cases hx
    exact hs
theorem Few.all {α : Type} {sz : α → Nat} {xs : List α} {k : Nat} (h : Few sz xs k) (hk : xs.length ≤ k) : ∀ x ∈ xs, sz x ≤ 3000 := by
  intro x hx
  obtain ⟨j, hj⟩ := List.mem_iff_getElem?.1 hx
  have hlt : j < xs.length := (List.getElem?_eq_some_iff.1 hj).1
  exact h j x (by omega) hj
set_option maxRecDepth 20000 in
set_option maxHeartbeats 4000000 in
theorem size_calls (w : World) (L : Lay) (A1 A2 A3 A4 : Option Addr) (n1 c1 n2 c2 n3 c3 n4 c4 : Nat) (hL : LayV w L A1 A2 A3 A4 n1 c1 n2 c2 n3 c3 n4 c4) (hN : NmOk L 140737488351232) :
    Calls Tryd.prog 12 #[.agg #[.slice A1 n1 c1, .slice A2 n2 c2, .slice A3 n3 c3, .slice A4 n4 c4]] w (SizePost w L) := by
  have hbw := below_new w (.cells #[.slice A1 n1 c1, .slice A2 n2 c2, .slice A3 n3 c3, .slice A4 n4 c4] 26)
  have hB := Blk.new w #[.slice A1 n1 c1, .slice A2 n2 c2, .slice A3 n3 c3, .slice A4 n4 c4] 26 (0, 0)
  have b0 := hB.cell 0
  have b1 := hB.cell 1
  have b2 := hB.cell 2
  have b3 := hB.cell 3
  simp only [List.getElem?_toArray, List.getElem?_cons_zero, List.getElem?_cons_succ] at b0 b1 b2 b3
  have hL := hL.stay hbw
  have z1 := hL.secs.sz
  have z2 := hL.pts.sz
  have z3 := hL.sigs.sz
  have z4 := hL.rtes.rd.2.1
  have q1 := Nat.le_trans hL.secs.le hL.secs.cap
  have q2 := Nat.le_trans hL.pts.le hL.pts.cap
  have q3 := Nat.le_trans hL.sigs.le hL.sigs.cap
  have q4 := Nat.le_trans hL.rtes.le hL.rtes.cap
  have HLEN := Lib.hid (And.intro hL.secs.len (And.intro hL.pts.len (And.intro hL.sigs.len hL.rtes.len)))
  have HN := Lib.hid hN
  have HL := Lib.hid hL
  have HBW := Lib.hid hbw
  clear hL hB hN
  go_enter Tryd.func12, Tryd.ntmps12
  go_upto_block 0 with fail
  generalize (w.alloc (.cells #[.slice A1 n1 c1, .slice A2 n2 c2, .slice A3 n3 c3, .slice A4 n4 c4] 26)) = w0 at *
  generalize hgn : w.heap.size = gn at *
  have HGN := Lib.hid hgn
  clear hgn hbw
  go_cut [3] (fun s3 wx => ∃ n : Nat, s3 = .int .i64 n ∧ n ≤ 1000000000000000 ∧ Hid (n < 3000 → n1 + n2 + n3 + n4 < 3000 ∧ ∀ x ∈ L.secs, x.size ≤ 3000) ∧ wx = w0)
  case first =>
    go_wp2_with fail
    go_loop [3, 4] (fun t i => ∃ (k n : Nat), k ≤ n1 ∧ i = .int .i64 k ∧ t = .int .i64 n ∧ n ≤ 1000000000000000 ∧ Hid (n < 3000 → n1 + n2 + n3 + n4 < 3000 ∧ Few ByteArray.size L.secs k)) (fun _ i => n1 - (intOf i).toNat)
    case atStart => exact ⟨0, n1 + n2 + n3 + n4, by omega, rfl, by simp, by omega, Lib.hid (fun h => ⟨h, Few.zero _ _⟩)⟩
    case round =>
      obtain ⟨k, n, hk, rfl, rfl, hn, hf⟩ := hrel
      by_cases hlt : k < n1 ∧ n < 3000
      · obtain ⟨hlt, hlt2⟩ := hlt
        obtain ⟨b, off, x, rfl, hx, hc⟩ := HL.out.secs.str hlt
        have hs := HN.out.secs x (List.mem_of_getElem? hx)
        have HX := Lib.hid hx
        have hf := Lib.hid (hf.out hlt2)
        clear hx
        go_wp2_with fail
        go_round
        case rel => exact ⟨k + 1, n + x.size, by omega, by go_num, by go_num, by omega, Lib.hid (fun h => ⟨hf.out.1, hf.out.2.more HX.out (by omega)⟩)⟩
        case measure => simp [intOf]; omega
      · have HE : Hid (n < 3000 → n1 + n2 + n3 + n4 < 3000 ∧ ∀ x ∈ L.secs, x.size ≤ 3000) := Lib.hid (fun h => ⟨(hf.out h).1, (hf.out h).2.all (by have := HLEN.out; omega)⟩)
        clear hf
        rcases Nat.lt_or_ge k n1 with h1 | h1
        · have h2 : ¬ (n < 3000) := by omega
          clear hlt
          go_wp2_with fail
          go_meet
          exact ⟨n, rfl, hn, HE, rfl⟩
        · clear hlt
          go_wp2_with fail
          go_meet
          exact ⟨n, rfl, hn, HE, rfl⟩
  case rest =>
  obtain ⟨na, rfl, hna, HA, hwx⟩ := hcut
  obtain rfl : w0 = wc := hwx.symm
  clear hwx
  go_upto_block 2 with fail
  go_cut [3] (fun s3 wx => ∃ n : Nat, s3 = .int .i64 n ∧ n ≤ 2000000000000000 ∧ Hid (n < 3000 → na < 3000 ∧ ∀ x ∈ L.pts, x.name.size ≤ 3000) ∧ wx = w0)
  case first =>
    go_wp2_with fail
    go_loop [3, 5] (fun t i => ∃ (k n : Nat), k ≤ n2 ∧ i = .int .i64 k ∧ t = .int .i64 n ∧ n ≤ 2000000000000000 ∧ Hid (n < 3000 → na < 3000 ∧ Few (fun x : Pt => x.name.size) L.pts k)) (fun _ i => n2 - (intOf i).toNat)
    case atStart => exact ⟨0, na, by omega, rfl, rfl, by omega, Lib.hid (fun h => ⟨h, Few.zero _ _⟩)⟩
    case round =>
      obtain ⟨k, n, hk, rfl, rfl, hn, hf⟩ := hrel
      by_cases hlt : k < n2 ∧ n < 3000
      · obtain ⟨hlt, hlt2⟩ := hlt
        obtain ⟨b, off, x, rfl, hx, hc, hc2⟩ := HL.out.pts.pt hlt
        have hs := HN.out.pts x (List.mem_of_getElem? hx)
        have HX := Lib.hid hx
        have hf := Lib.hid (hf.out hlt2)
        clear hx
        go_wp2_with fail
        go_round
        case rel => exact ⟨k + 1, n + x.name.size, by omega, by go_num, by go_num, by omega, Lib.hid (fun h => ⟨hf.out.1, hf.out.2.more HX.out (by omega)⟩)⟩
        case measure => simp [intOf]; omega
      · have HE : Hid (n < 3000 → na < 3000 ∧ ∀ x ∈ L.pts, x.name.size ≤ 3000) := Lib.hid (fun h => ⟨(hf.out h).1, (hf.out h).2.all (by have := HLEN.out; omega)⟩)
        clear hf
        rcases Nat.lt_or_ge k n2 with h1 | h1
        · have h2 : ¬ (n < 3000) := by omega
          clear hlt
          go_wp2_with fail
          go_meet
          exact ⟨n, rfl, hn, HE, rfl⟩
        · clear hlt
          go_wp2_with fail
          go_meet
          exact ⟨n, rfl, hn, HE, rfl⟩
  case rest =>
  obtain ⟨nb, rfl, hnb, HB, hwx⟩ := hcut
  obtain rfl : w0 = wc := hwx.symm
  clear hwx
  go_upto_block 4 with fail
  go_cut [3] (fun s3 wx => ∃ n : Nat, s3 = .int .i64 n ∧ n ≤ 3000000000000000 ∧ Hid (n < 3000 → nb < 3000 ∧ ∀ x ∈ L.sigs, x.size ≤ 3000) ∧ wx = w0)
  case first =>
    go_wp2_with fail
    go_loop [3, 6] (fun t i => ∃ (k n : Nat), k ≤ n3 ∧ i = .int .i64 k ∧ t = .int .i64 n ∧ n ≤ 3000000000000000 ∧ Hid (n < 3000 → nb < 3000 ∧ Few ByteArray.size L.sigs k)) (fun _ i => n3 - (intOf i).toNat)
    case atStart => exact ⟨0, nb, by omega, rfl, rfl, by omega, Lib.hid (fun h => ⟨h, Few.zero _ _⟩)⟩
    case round =>
      obtain ⟨k, n, hk, rfl, rfl, hn, hf⟩ := hrel
      by_cases hlt : k < n3 ∧ n < 3000
      · obtain ⟨hlt, hlt2⟩ := hlt
        obtain ⟨b, off, x, rfl, hx, hc⟩ := HL.out.sigs.str hlt
        have hs := HN.out.sigs x (List.mem_of_getElem? hx)
        have HX := Lib.hid hx
        have hf := Lib.hid (hf.out hlt2)
        clear hx
        go_wp2_with fail
        go_round
        case rel => exact ⟨k + 1, n + x.size, by omega, by go_num, by go_num, by omega, Lib.hid (fun h => ⟨hf.out.1, hf.out.2.more HX.out (by omega)⟩)⟩
        case measure => simp [intOf]; omega
      · have HE : Hid (n < 3000 → nb < 3000 ∧ ∀ x ∈ L.sigs, x.size ≤ 3000) := Lib.hid (fun h => ⟨(hf.out h).1, (hf.out h).2.all (by have := HLEN.out; omega)⟩)
        clear hf
        rcases Nat.lt_or_ge k n3 with h1 | h1
        · have h2 : ¬ (n < 3000) := by omega
          clear hlt
          go_wp2_with fail
          go_meet
          exact ⟨n, rfl, hn, HE, rfl⟩
        · clear hlt
          go_wp2_with fail
          go_meet
          exact ⟨n, rfl, hn, HE, rfl⟩
  case rest =>
  obtain ⟨nc, rfl, hnc, HC, hwx⟩ := hcut
  obtain rfl : w0 = wc := hwx.symm
  clear hwx
  go_wp2_with fail
  go_loopw [3, 7] (fun t i wr => ∃ (k n : Nat), k ≤ n4 ∧ i = .int .i64 k ∧ t = .int .i64 n ∧ n ≤ 4000000000000000 ∧ Hid ((n < 3000 → nc < 3000 ∧ Few (fun x : Rte => x.name.size) L.rtes k) ∧ Below w0.heap.size w0 wr)) (fun _ i _ => n4 - (intOf i).toNat)
  case atStart => exact ⟨0, nc, by omega, rfl, rfl, by omega, Lib.hid ⟨fun h => ⟨h, Few.zero _ _⟩, Below.refl _ _⟩⟩
  case round =>
    obtain ⟨k, n, hk, rfl, rfl, hn, hf⟩ := hrel
    have hb := hf.out.2
    have b3 := cell_stay hb b3
    by_cases hlt : k < n4 ∧ n < 3000
    · obtain ⟨hlt, hlt2⟩ := hlt
      obtain ⟨b, off, x, P, Q, F, p, pc, q, qc, f, fc, rfl, hx, e0, e1, e2, e3, e4, e5, hv⟩ := HL.out.rtes.at_ hlt
      have e0 := cell_stay hb e0
      have e1 := cell_stay hb e1
      have e2 := cell_stay hb e2
      have e3 := cell_stay hb e3
      have e4 := cell_stay hb e4
      have e5 := cell_stay hb e5
      have hs := HN.out.rtes x (List.mem_of_getElem? hx)
      have p1 := hv.path.sz
      have p2 := hv.points.sz
      have p3 := hv.flank.sz
      have r1 := Nat.le_trans hv.path.le hv.path.cap
      have r2 := Nat.le_trans hv.points.le hv.points.cap
      have r3 := Nat.le_trans hv.flank.le hv.flank.cap
      have HX := Lib.hid hx
      have HF := Lib.hid (hf.out.1 hlt2)
      have HY := Lib.hid (hb.alloc hb.size (.cells #[.string x.name, .int .i64 x.frm, .int .i64 x.dest, .slice P p pc, .slice Q q qc, .slice F f fc] 44))
      clear hx hv hf hb
      go_wp2_with fail
      go_roundw
      case rel => exact ⟨k + 1, n + x.name.size + p + q + f, by omega, by go_num, by go_num, by omega, Lib.hid ⟨fun h => ⟨HF.out.1, HF.out.2.more HX.out (by omega)⟩, HY.out⟩⟩
      case measure => simp [intOf]; omega
    · have HE : Hid (n < 3000 → SzOk L) := Lib.hid (fun h => by
        obtain ⟨h3, f4⟩ := hf.out.1 h
        obtain ⟨h2, f3⟩ := HC.out h3
        obtain ⟨h1, f2⟩ := HB.out h2
        obtain ⟨h0, f1⟩ := HA.out h1
        have e := HLEN.out
        exact ⟨⟨f1, f2, f3, f4.all (by omega)⟩, by omega⟩)
      have HY := Lib.hid hb
      clear hf hb
      rcases Nat.lt_or_ge k n4 with h1 | h1
      · have h2 : ¬ (n < 3000) := by omega
        clear hlt
        go_wp2_with fail
        go_ret
        exact ⟨n, rfl, HE.out, below_more (by rw [HGN.out]; exact HBW.out) HY.out⟩
      · clear hlt
        go_wp2_with fail
        go_ret
        exact ⟨n, rfl, HE.out, below_more (by rw [HGN.out]; exact HBW.out) HY.out⟩
end Go.Proofs.YtmdnmiiggkfnfaaDoor
