/- Texts put together for a claim. -/
import Derived.Test.YtmdnmiiggkfnfaaDoorQ15PlanFull
import Derived.Deep.DeepCutAuto
import Derived.Deep.CutBlock
/- Contracts: the reference's In, needs. -/
set_option linter.unusedVariables false
set_option linter.unusedSimpArgs false
namespace Go.Proofs.YtmdnmiiggkfnfaaDoor
open Go.RowKit

def inB (path : List Int) (v : Int) : Bool := path.any fun z => decide (v = z)
theorem inB_yes {xs : List Int} {j : Nat} {v : Int} (h : xs[j]? = some v) : inB xs v = true := List.any_eq_true.2 ⟨v, List.mem_of_getElem? h, by simp⟩
theorem inB_no {xs : List Int} {v : Int} (h : ∀ (j : Nat) (x : Int), xs[j]? = some x → x ≠ v) : inB xs v = false := by
  unfold inB
  rw [List.any_eq_false]
  intro x hx
  obtain ⟨j, hj⟩ := List.mem_iff_getElem?.1 hx
  simp only [decide_eq_true_eq]
  exact fun e => h j x hj e.symm
set_option maxRecDepth 20000 in
set_option maxHeartbeats 2000000 in
theorem RefIn_calls (w : World) (A : Option Addr) (n c : Nat) (xs : List Int) (hA : Sl flI w A n c xs) (v : Int) :
    Calls Tryd.prog 43 #[.slice A n c, .int .i64 v] w fun e w' => e = .returned (.bool (inB xs v)) ∧ w = w' := by
  have HL := Lib.hid hA.len
  have HA := Lib.hid hA
  have hz := hA.sz
  have hcap := Nat.le_trans hA.le hA.cap
  clear hA
  go_enter Tryd.func43, Tryd.ntmps43
  go_wp2_with fail
  go_loop [5] (fun i => ∃ k : Nat, k ≤ n ∧ i = .int .i64 k ∧ Hid (∀ (j : Nat) (x : Int), j < k → xs[j]? = some x → x ≠ v)) (fun i => n - (intOf i).toNat)
  case atStart => exact ⟨0, by omega, rfl, Lib.hid (fun j x h => absurd h (by omega))⟩
  case round =>
    obtain ⟨k, hk, rfl, hr⟩ := hrel
    by_cases hlt : k < n
    · obtain ⟨b, off, x, rfl, hx, hc⟩ := HA.out.int hlt
      by_cases hv : x = v
      · subst hv
        have HX := Lib.hid hx
        clear hx
        have he : (x == x) = true := by simp
        go_wp2_with fail
        go_ret
        exact ⟨ret_bool (by rw [inB_yes HX.out]), rfl⟩
      · have he : (x == v) = false := by simp [hv]
        have HN : Hid (∀ (j : Nat) (y : Int), j < k + 1 → xs[j]? = some y → y ≠ v) := Lib.hid (fun j y hj hy => by
          rcases Nat.lt_or_ge j k with h1 | h1
          · exact hr.out j y h1 hy
          · obtain rfl : j = k := by omega
            rw [hx] at hy
            cases hy
            exact hv)
        clear hv hx
        go_wp2_with fail
        go_round
        case rel => exact ⟨k + 1, by omega, by go_num, HN⟩
        case measure => simp [intOf]; omega
    · obtain rfl : k = n := by omega
      have HE := Lib.hid (inB_no (xs := xs) (v := v) (fun j x hx => hr.out j x (by have := (List.getElem?_eq_some_iff.1 hx).1; have := HL.out; omega) hx))
      clear hlt hr
      go_wp2_with fail
      go_ret
      exact ⟨ret_bool (by rw [HE.out]), rfl⟩

theorem RefInB_calls (w : World) (A : Option Addr) (n c : Nat) (xs : List Int) (hA : Sl flI w A n c xs) (v : Int) :
    Calls Tryd.prog 43 #[.slice A n c, .int .i64 v] w fun e w' => e = .returned (.bool (inB xs v)) ∧ Below w.heap.size w w' :=
  (RefIn_calls w A n c xs hA v).mono (by rintro e w' ⟨h, rfl⟩; exact ⟨h, Below.refl _ _⟩)
def secOf (L : Lay) (p : Int) : Int := ((L.pts[p.toNat]?).map Pt.sec).getD 0
def nd0 : Need := ⟨0, false⟩
/-- The j-th need of a row is wrong. -/
def needBad (L : Lay) (ns : List Need) (path : List Int) (inn : Bool) (j : Nat) : Bool :=
  decide ((ns.getD j nd0).p < 0) || decide ((L.pts.length : Int) ≤ (ns.getD j nd0).p) || (decide (0 < j) && decide ((ns.getD j nd0).p ≤ (ns.getD (j - 1) nd0).p)) || (inB path (secOf L (ns.getD j nd0).p) != inn)
def needsM (L : Lay) (ns : List Need) (path : List Int) (inn : Bool) : Bool := !((List.range ns.length).any (needBad L ns path inn))
theorem needs_stop {L : Lay} {ns : List Need} {path : List Int} {inn : Bool} {j : Nat} (hj : j < ns.length) (h : needBad L ns path inn j = true) : needsM L ns path inn = false := by
  unfold needsM
  rw [List.any_eq_true.2 ⟨j, List.mem_range.2 hj, h⟩]
  rfl
theorem needs_all {L : Lay} {ns : List Need} {path : List Int} {inn : Bool} (h : ∀ j, j < ns.length → needBad L ns path inn j = false) : needsM L ns path inn = true := by
  unfold needsM
  rw [List.any_eq_false.2 (fun j hj => by rw [h j (List.mem_range.1 hj)]; decide)]
  rfl
set_option maxRecDepth 20000 in
set_option maxHeartbeats 4000000 in
theorem RefNeeds_calls (w : World) (L : Lay) (A1 A2 A3 A4 : Option Addr) (n1 c1 n2 c2 n3 c3 n4 c4 : Nat) (hL : LayV w L A1 A2 A3 A4 n1 c1 n2 c2 n3 c3 n4 c4) (Q P : Option Addr) (q qc p pc : Nat) (ns : List Need) (path : List Int) (hQ : Sl flN w Q q qc ns) (hP : Sl flI w P p pc path) (inn : Bool) :
    Calls Tryd.prog 44 #[.agg #[.slice A1 n1 c1, .slice A2 n2 c2, .slice A3 n3 c3, .slice A4 n4 c4], .slice Q q qc, .slice P p pc, .bool inn] w fun e w' => e = .returned (.bool (needsM L ns path inn)) ∧ Below w.heap.size w w' := by
  have hbw := below_new w (.cells #[.slice A1 n1 c1, .slice A2 n2 c2, .slice A3 n3 c3, .slice A4 n4 c4] 26)
  have hB := Blk.new w #[.slice A1 n1 c1, .slice A2 n2 c2, .slice A3 n3 c3, .slice A4 n4 c4] 26 (0, 0)
  have b1 := hB.cell 1
  simp only [List.getElem?_toArray, List.getElem?_cons_zero, List.getElem?_cons_succ] at b1
  have hL := hL.stay hbw
  have hQ := hQ.stay hbw
  have hP := hP.stay hbw
  have z2 := hL.pts.sz
  have zq := hQ.sz
  have q2 := Nat.le_trans hL.pts.le hL.pts.cap
  have qq := Nat.le_trans hQ.le hQ.cap
  have HLEN := Lib.hid (And.intro hL.pts.len hQ.len)
  have HI := Lib.hid (fun v => RefIn_calls _ P p pc path hP v)
  have HL := Lib.hid hL
  have HQ := Lib.hid hQ
  have HBW := Lib.hid hbw
  clear hL hB hQ hP
  go_enter Tryd.func44, Tryd.ntmps44
  go_wp2_with fail
  generalize (w.alloc (.cells #[.slice A1 n1 c1, .slice A2 n2 c2, .slice A3 n3 c3, .slice A4 n4 c4] 26)) = w0 at *
  generalize hgn : w.heap.size = gn at *
  have HGN := Lib.hid hgn
  clear hgn hbw
  go_loop [9] (fun i => ∃ k : Nat, k ≤ q ∧ i = .int .i64 k ∧ Hid (∀ j, j < k → needBad L ns path inn j = false)) (fun i => q - (intOf i).toNat)
  case atStart => exact ⟨0, by omega, rfl, Lib.hid (fun j h => absurd h (by omega))⟩
  case round =>
    obtain ⟨k, hk, rfl, hr⟩ := hrel
    by_cases hlt : k < q
    · obtain ⟨b, off, x, rfl, hx, hc, hc2⟩ := HQ.out.need hlt
      have HX : Hid (ns.getD k nd0 = x) := Lib.hid (by rw [List.getD_eq_getElem?_getD, hx]; rfl)
      clear hx
      have HSTOP := Lib.hid (fun (h : needBad L ns path inn k = true) => needs_stop (by have := HLEN.out; omega) h)
      by_cases h1 : x.p < 0
      · have HE := Lib.hid (HSTOP.out (by unfold needBad; rw [HX.out, decide_eq_true h1]; rfl))
        go_wp2_with fail
        go_ret
        exact ⟨ret_bool (by rw [HE.out]), by rw [HGN.out]; exact HBW.out⟩
      by_cases h2 : (n2 : Int) ≤ x.p
      · have HE := Lib.hid (HSTOP.out (by unfold needBad; rw [HX.out, HLEN.out.1, decide_eq_true h2]; simp))
        go_wp2_with fail
        go_ret
        exact ⟨ret_bool (by rw [HE.out]), by rw [HGN.out]; exact HBW.out⟩
      obtain ⟨m, hm⟩ : ∃ m : Nat, x.p = m := ⟨x.p.toNat, by omega⟩
      have hm2 : m < n2 := by omega
      obtain ⟨b', off', y, rfl, hy, d1, d2⟩ := HL.out.pts.pt hm2
      have HS : Hid (secOf L (m : Int) = y.sec) := Lib.hid (by unfold secOf; rw [Int.toNat_natCast, hy]; rfl)
      clear hy
      obtain ⟨xp, xr⟩ := x
      simp only at hm h1 h2 hc hc2
      subst hm
      by_cases hk0 : k = 0
      · have HM : Hid (needBad L ns path inn k = (inB path y.sec != inn)) := Lib.hid (by
          unfold needBad
          rw [HX.out]
          simp only [HS.out]
          subst hk0
          rw [decide_eq_false h1, decide_eq_false (by rw [HLEN.out.1]; exact h2)]
          simp)
        subst hk0
        simp only [Nat.zero_mul, Nat.add_zero] at hc hc2
        have KI := Lib.hid (HI.out y.sec)
        generalize inB path y.sec = z at *
        cases z <;> cases inn
        · have HN : Hid (∀ j, j < 0 + 1 → needBad L ns path false j = false) := Lib.hid (fun j hj => by
            rcases Nat.lt_or_ge j 0 with h | h
            · exact hr.out j h
            · obtain rfl : j = 0 := by omega
              rw [HM.out]; rfl)
          go_wp2_with (first
            | (go_at_call 43; refine KI.out.mono ?_; rintro e w' ⟨rfl, rfl⟩)
            | fail)
          go_round
          case rel => exact ⟨0 + 1, by omega, by go_num, HN⟩
          case measure => simp [intOf]; omega
        · have HE := Lib.hid (HSTOP.out (by rw [HM.out]; rfl))
          go_wp2_with (first
            | (go_at_call 43; refine KI.out.mono ?_; rintro e w' ⟨rfl, rfl⟩)
            | fail)
          go_ret
          exact ⟨ret_bool (by rw [HE.out]), by rw [HGN.out]; exact HBW.out⟩
        · have HE := Lib.hid (HSTOP.out (by rw [HM.out]; rfl))
          go_wp2_with (first
            | (go_at_call 43; refine KI.out.mono ?_; rintro e w' ⟨rfl, rfl⟩)
            | fail)
          go_ret
          exact ⟨ret_bool (by rw [HE.out]), by rw [HGN.out]; exact HBW.out⟩
        · have HN : Hid (∀ j, j < 0 + 1 → needBad L ns path true j = false) := Lib.hid (fun j hj => by
            rcases Nat.lt_or_ge j 0 with h | h
            · exact hr.out j h
            · obtain rfl : j = 0 := by omega
              rw [HM.out]; rfl)
          go_wp2_with (first
            | (go_at_call 43; refine KI.out.mono ?_; rintro e w' ⟨rfl, rfl⟩)
            | fail)
          go_round
          case rel => exact ⟨0 + 1, by omega, by go_num, HN⟩
          case measure => simp [intOf]; omega
      · obtain ⟨k, rfl⟩ : ∃ m, k = m + 1 := ⟨k - 1, by omega⟩
        obtain ⟨b2, off2, x2, e2, hx2, f1, f2⟩ := HQ.out.need (j := k) (by omega)
        obtain ⟨rfl, rfl⟩ : b2 = b ∧ off2 = off := by injection e2 with e2; injection e2 with e3 e4; exact ⟨e3.symm, e4.symm⟩
        have HX2 : Hid (ns.getD k nd0 = x2) := Lib.hid (by rw [List.getD_eq_getElem?_getD, hx2]; rfl)
        clear hx2 e2
        have HM : Hid (needBad L ns path inn (k + 1) = (decide ((m : Int) ≤ x2.p) || (inB path y.sec != inn))) := Lib.hid (by
          unfold needBad
          rw [HX.out, Nat.add_sub_cancel, HX2.out]
          simp only [HS.out]
          rw [decide_eq_false h1, decide_eq_false (by rw [HLEN.out.1]; exact h2)]
          simp)
        have hk1 : (0 : Int) < ((k + 1 : Nat) : Int) := by omega
        have hg : off2 + (k + 1) * 2 = off2 + (k * 2 + 2) := by omega
        by_cases h3 : (m : Int) ≤ x2.p
        · have HE := Lib.hid (HSTOP.out (by rw [HM.out, decide_eq_true h3]; rfl))
          clear hg
          go_wp2_with fail
          go_ret
          exact ⟨ret_bool (by rw [HE.out]), by rw [HGN.out]; exact HBW.out⟩
        have HM : Hid (needBad L ns path inn (k + 1) = (inB path y.sec != inn)) := Lib.hid (by rw [HM.out, decide_eq_false h3]; rfl)
        have KI := Lib.hid (HI.out y.sec)
        generalize inB path y.sec = z at *
        clear hg
        cases z <;> cases inn
        · have HN : Hid (∀ j, j < (k + 1) + 1 → needBad L ns path false j = false) := Lib.hid (fun j hj => by
            rcases Nat.lt_or_ge j (k + 1) with h | h
            · exact hr.out j h
            · obtain rfl : j = (k + 1) := by omega
              rw [HM.out]; rfl)
          go_wp2_with (first
            | (go_at_call 43; refine KI.out.mono ?_; rintro e w' ⟨rfl, rfl⟩)
            | fail)
          go_round
          case rel => exact ⟨(k + 1) + 1, by omega, by go_num, HN⟩
          case measure => simp [intOf]; omega
        · have HE := Lib.hid (HSTOP.out (by rw [HM.out]; rfl))
          go_wp2_with (first
            | (go_at_call 43; refine KI.out.mono ?_; rintro e w' ⟨rfl, rfl⟩)
            | fail)
          go_ret
          exact ⟨ret_bool (by rw [HE.out]), by rw [HGN.out]; exact HBW.out⟩
        · have HE := Lib.hid (HSTOP.out (by rw [HM.out]; rfl))
          go_wp2_with (first
            | (go_at_call 43; refine KI.out.mono ?_; rintro e w' ⟨rfl, rfl⟩)
            | fail)
          go_ret
          exact ⟨ret_bool (by rw [HE.out]), by rw [HGN.out]; exact HBW.out⟩
        · have HN : Hid (∀ j, j < (k + 1) + 1 → needBad L ns path true j = false) := Lib.hid (fun j hj => by
            rcases Nat.lt_or_ge j (k + 1) with h | h
            · exact hr.out j h
            · obtain rfl : j = (k + 1) := by omega
              rw [HM.out]; rfl)
          go_wp2_with (first
            | (go_at_call 43; refine KI.out.mono ?_; rintro e w' ⟨rfl, rfl⟩)
            | fail)
          go_round
          case rel => exact ⟨(k + 1) + 1, by omega, by go_num, HN⟩
          case measure => simp [intOf]; omega
    · obtain rfl : k = q := by omega
      have HE := Lib.hid (needs_all (L := L) (ns := ns) (path := path) (inn := inn) (fun j hj => hr.out j (by have := HLEN.out; omega)))
      clear hlt hr
      go_wp2_with fail
      go_ret
      exact ⟨ret_bool (by rw [HE.out]), by rw [HGN.out]; exact HBW.out⟩
end Go.Proofs.YtmdnmiiggkfnfaaDoor
