/- Texts put together for a claim. -/
import Derived.Test.YtmdnmiiggkfnfaaDoorQ16PlanFull
import Derived.Test.YtmdnmiiggkfnfaaDoorQ9PlanFull
/- Contracts: the reference's Name, names. -/
set_option linter.unusedVariables false
set_option linter.unusedSimpArgs false
namespace Go.Proofs.YtmdnmiiggkfnfaaDoor
open Go.RowKit

def setW : List UInt8 := [115, 101, 116]
def flankW : List UInt8 := [102, 108, 97, 110, 107]
/-- A NAME. -/
def nmB (s : ByteArray) : Bool := nameL (byt s) && !decide (s.toList = setW) && !decide (s.toList = flankW)
set_option maxRecDepth 20000 in
set_option maxHeartbeats 2000000 in
theorem RefName_calls (w : World) (hT : Tabs w) (s : ByteArray) (hs : s.size ≤ 4000000) :
    Calls Tryd.prog 21 #[.string s] w fun e w' => e = .returned (.bool (nmB s)) ∧ Below w.heap.size w w' := by
  have KN := Lib.hid (RefIsName_calls w hT s hs)
  have HM : Hid (nmB s = (nameL (byt s) && !decide (s.toList = setW) && !decide (s.toList = flankW))) := Lib.hid rfl
  unfold setW flankW at HM
  generalize nameL (byt s) = b at *
  clear hT
  cases b with
  | false =>
    go_enter Tryd.func21, Tryd.ntmps21
    go_wp2_with (first
      | (go_at_call 20; refine KN.out.mono ?_; rintro e w1 ⟨rfl, hb1⟩)
      | fail)
    go_ret
    exact ⟨ret_bool (by rw [HM.out]; rfl), hb1⟩
  | true =>
    by_cases h1 : s.toList = [115, 101, 116]
    · have e1 : (s.toList == [115, 101, 116]) = true := by rw [h1]; rfl
      have HE : Hid (nmB s = false) := Lib.hid (by rw [HM.out, decide_eq_true h1]; rfl)
      have HH := Lib.hid h1
      clear h1
      go_enter Tryd.func21, Tryd.ntmps21
      go_wp2_with (first
        | (go_at_call 20; refine KN.out.mono ?_; rintro e w1 ⟨rfl, hb1⟩)
        | fail)
      all_goals first
        | (exact absurd HH.out (by assumption))
        | (go_ret; exact ⟨ret_bool (by rw [HE.out]), hb1⟩)
    have e1 : (s.toList == [115, 101, 116]) = false := by simpa using h1
    by_cases h2 : s.toList = [102, 108, 97, 110, 107]
    · have e3 : (s.toList == [102, 108, 97, 110, 107]) = true := by rw [h2]; rfl
      have HE : Hid (nmB s = false) := Lib.hid (by rw [HM.out, decide_eq_true h2]; simp)
      clear h2
      go_enter Tryd.func21, Tryd.ntmps21
      go_wp2_with (first
        | (go_at_call 20; refine KN.out.mono ?_; rintro e w1 ⟨rfl, hb1⟩)
        | fail)
      go_ret
      exact ⟨ret_bool (by rw [HE.out]), hb1⟩
    · have e3 : (s.toList == [102, 108, 97, 110, 107]) = false := by simpa using h2
      have HE : Hid (nmB s = true) := Lib.hid (by rw [HM.out, decide_eq_false h1, decide_eq_false h2]; rfl)
      clear h2
      go_enter Tryd.func21, Tryd.ntmps21
      go_wp2_with (first
        | (go_at_call 20; refine KN.out.mono ?_; rintro e w1 ⟨rfl, hb1⟩)
        | fail)
      go_ret
      exact ⟨ret_bool (by rw [HE.out]), hb1⟩

theorem str_eq (a b : ByteArray) : (a.toList == b.toList) = decide (a = b) := by
  rw [ByteArray.toList_eq, ByteArray.toList_eq, Bool.eq_iff_iff, decide_eq_true_iff, beq_iff_eq]
  constructor
  · intro h
    cases a; cases b
    simpa using h
  · rintro rfl
    rfl
def nb0 : ByteArray := .empty
def nmBad (l : List ByteArray) (i : Nat) : Bool := !nmB (l.getD i nb0) || (List.range i).any fun k => decide (l.getD k nb0 = l.getD i nb0)
/-- Names all, none twice. -/
def namesM (l : List ByteArray) : Bool := !((List.range l.length).any (nmBad l))
theorem names_stop {l : List ByteArray} {j : Nat} (hj : j < l.length) (h : nmBad l j = true) : namesM l = false := by
  unfold namesM
  rw [List.any_eq_true.2 ⟨j, List.mem_range.2 hj, h⟩]
  rfl
theorem names_all {l : List ByteArray} (h : ∀ j, j < l.length → nmBad l j = false) : namesM l = true := by
  unfold namesM
  rw [List.any_eq_false.2 (fun j hj => by rw [h j (List.mem_range.1 hj)]; decide)]
  rfl
set_option maxRecDepth 20000 in
set_option maxHeartbeats 4000000 in
theorem RefNames_calls (w : World) (hT : Tabs w) (A : Option Addr) (n c : Nat) (l : List ByteArray) (hA : Sl flS w A n c l) (hs : ∀ x ∈ l, x.size ≤ 4000000) :
    Calls Tryd.prog 24 #[.slice A n c] w fun e w' => e = .returned (.bool (namesM l)) ∧ Below w.heap.size w w' := by
  have HL := Lib.hid hA.len
  have HA := Lib.hid hA
  have HT := Lib.hid hT
  have HS := Lib.hid hs
  have hz := hA.sz
  have hcap := Nat.le_trans hA.le hA.cap
  clear hA hT hs
  go_enter Tryd.func24, Tryd.ntmps24
  go_wp2_with fail
  go_loopw [3] (fun i wr => ∃ k : Nat, k ≤ n ∧ i = .int .i64 k ∧ Hid (Below w.heap.size w wr ∧ ∀ j, j < k → nmBad l j = false)) (fun i _ => n - (intOf i).toNat)
  case atStart => exact ⟨0, by omega, rfl, Lib.hid ⟨Below.refl _ _, fun j h => absurd h (by omega)⟩⟩
  case round =>
    obtain ⟨k, hk, rfl, hr⟩ := hrel
    by_cases hlt : k < n
    · obtain ⟨b, off, x, rfl, hx, hc⟩ := HA.out.str hlt
      have hc := cell_stay hr.out.1 hc
      have KN := Lib.hid (RefName_calls wr (HT.out.stay hr.out.1) x (HS.out x (List.mem_of_getElem? hx)))
      have HX : Hid (l.getD k nb0 = x) := Lib.hid (by rw [List.getD_eq_getElem?_getD, hx]; rfl)
      have HSTOP := Lib.hid (fun (h : nmBad l k = true) => names_stop (by have := HL.out; omega) h)
      have HB := Lib.hid hr.out.1
      have HR := Lib.hid hr.out.2
      clear hx hr
      generalize hnb : nmB x = nb at *
      have HNB := Lib.hid hnb
      clear hnb
      cases nb with
      | false =>
        have HE := Lib.hid (HSTOP.out (by unfold nmBad; rw [HX.out, HNB.out]; rfl))
        go_wp2_with (first
          | (go_at_call 21; refine KN.out.mono ?_; rintro e w1 ⟨rfl, hb1⟩)
          | fail)
        go_ret
        exact ⟨ret_bool (by rw [HE.out]), below_more HB.out hb1⟩
      | true =>
        go_wp2_with (first
          | (go_at_call 21; refine KN.out.mono ?_; rintro e w1 ⟨rfl, hb1⟩; have hc := cell_stay hb1 hc; have HB := Lib.hid (below_more HB.out hb1); clear hb1)
          | fail)
        go_loopw [4] (fun i wr => ∃ j : Nat, j ≤ k ∧ i = .int .i64 j ∧ Hid (Below w1.heap.size w1 wr ∧ ∀ i, i < j → l.getD i nb0 ≠ x)) (fun i _ => k - (intOf i).toNat)
        case atStart => exact ⟨0, by omega, rfl, Lib.hid ⟨Below.refl _ _, fun j h => absurd h (by omega)⟩⟩
        case round =>
          obtain ⟨j, hj, rfl, hr⟩ := hrel
          have hc := cell_stay hr.out.1 hc
          by_cases hlt2 : j < k
          · obtain ⟨b2, off2, y, e2, hy, hcy⟩ := HA.out.str (j := j) (by omega)
            obtain ⟨rfl, rfl⟩ : b2 = b ∧ off2 = off := by injection e2 with e2; injection e2 with e3 e4; exact ⟨e3.symm, e4.symm⟩
            have hcy := cell_stay HB.out hcy
            have hcy := cell_stay hr.out.1 hcy
            have HY : Hid (l.getD j nb0 = y) := Lib.hid (by rw [List.getD_eq_getElem?_getD, hy]; rfl)
            have HB2 := Lib.hid hr.out.1
            have HR2 := Lib.hid hr.out.2
            clear hy hr e2
            by_cases he : y = x
            · have HE := Lib.hid (HSTOP.out (by
                unfold nmBad
                rw [HX.out, HNB.out, List.any_eq_true.2 ⟨j, List.mem_range.2 hlt2, by rw [HY.out]; exact decide_eq_true he⟩]
                rfl))
              subst he
              have h2 : (y.toList == y.toList) = true := by simp
              go_wp2_with fail
              go_quiet (fail)
              go_wp2_with fail
              go_ret
              exact ⟨ret_bool (by rw [HE.out]), below_drawn (below_more HB.out HB2.out) _⟩
            · have h1 : (y.toList == x.toList) = false := by rw [str_eq]; exact decide_eq_false he
              have HN : Hid (∀ i, i < j + 1 → l.getD i nb0 ≠ x) := Lib.hid (fun i hi => by
                rcases Nat.lt_or_ge i j with h | h
                · exact HR2.out i h
                · obtain rfl : i = j := by omega
                  rw [HY.out]; exact he)
              clear he
              go_wp2_with fail
              go_quiet (fail)
              go_wp2_with fail
              go_roundw
              case rel => exact ⟨j + 1, by omega, by go_num, Lib.hid ⟨below_drawn HB2.out _, HN.out⟩⟩
              case measure => simp [intOf]; omega
          · obtain rfl : j = k := by omega
            have HG : Hid (nmBad l j = false) := Lib.hid (by
              unfold nmBad
              rw [HX.out, HNB.out, List.any_eq_false.2 (fun i hi => by rw [decide_eq_false (hr.out.2 i (List.mem_range.1 hi))]; decide)]
              rfl)
            have HN : Hid (∀ i, i < j + 1 → nmBad l i = false) := Lib.hid (fun i hi => by
              rcases Nat.lt_or_ge i j with h | h
              · exact HR.out i h
              · obtain rfl : i = j := by omega
                exact HG.out)
            have HB2 := Lib.hid hr.out.1
            clear hlt2 hr
            go_wp2_with fail
            go_roundw
            case rel => exact ⟨j + 1, by omega, by go_num, Lib.hid ⟨below_more HB.out HB2.out, HN.out⟩⟩
            case measure => simp [intOf]; omega
    · obtain rfl : k = n := by omega
      have HE := Lib.hid (names_all (l := l) (fun j hj => hr.out.2 j (by have := HL.out; omega)))
      have HB := Lib.hid hr.out.1
      clear hlt hr
      go_wp2_with fail
      go_ret
      exact ⟨ret_bool (by rw [HE.out]), HB.out⟩
end Go.Proofs.YtmdnmiiggkfnfaaDoor
