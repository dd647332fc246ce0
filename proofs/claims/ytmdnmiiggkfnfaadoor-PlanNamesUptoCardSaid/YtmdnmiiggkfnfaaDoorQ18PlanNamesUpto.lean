/- Texts put together for a claim. -/
import Derived.Test.YtmdnmiiggkfnfaaDoorQ17PlanNamesUpto
import Derived.Test.YtmdnmiiggkfnfaaDoorQ9PlanNamesUpto
import Derived.Test.YtmdnmiiggkfnfaaDoorQ16PlanNamesUpto
import Derived.Test.YtmdnmiiggkfnfaaDoorQ15PlanNamesUpto
/- Contracts: the reference's Name, names. -/
set_option linter.unusedVariables false
set_option linter.unusedSimpArgs false
namespace Go.Proofs.YtmdnmiiggkfnfaaDoor
open Go.RowKit

def setW : List UInt8 := [115, 101, 116]
def flankW : List UInt8 := [102, 108, 97, 110, 107]
/-- A NAME. -/
def nmB (s : ByteArray) : Bool := nameL (byt s) && !decide (s.toList = setW) && !decide (s.toList = flankW)
set_option maxRecDepth 20000 in
set_option maxHeartbeats 2000000 in
theorem RefName_calls (w : World) (hT : Tabs w) (s : ByteArray) (hs : s.size ≤ 4000000) :
    Calls Tryd.prog 21 #[.string s] w fun e w' => e = .returned (.bool (nmB s)) ∧ Below w.heap.size w w' := by
  have KN := Lib.hid (RefIsName_calls w hT s hs)
  have HM : Hid (nmB s = (nameL (byt s) && !decide (s.toList = setW) && !decide (s.toList = flankW))) := Lib.hid rfl
  unfold setW flankW at HM
  generalize nameL (byt s) = b at *
  clear hT
  cases b with
  | false =>
    go_enter Tryd.func21, Tryd.ntmps21
    go_wp2_with (first
      | (go_at_call 20; refine KN.out.mono ?_; rintro e w1 ⟨rfl, hb1⟩)
      | fail)
    go_ret
    exact ⟨ret_bool (by rw [HM.out]; rfl), hb1⟩
  | true =>
    by_cases h1 : s.toList = [115, 101, 116]
    · have e1 : (s.toList == [115, 101, 116]) = true := by rw [h1]; rfl
      have HE : Hid (nmB s = false) := Lib.hid (by rw [HM.out, decide_eq_true h1]; rfl)
      have HH := Lib.hid h1
      clear h1
      go_enter Tryd.func21, Tryd.ntmps21
      go_wp2_with (first
        | (go_at_call 20; refine KN.out.mono ?_; rintro e w1 ⟨rfl, hb1⟩)
        | fail)
      all_goals first
        | (exact absurd HH.out (by assumption))
        | (go_ret; exact ⟨ret_bool (by rw [HE.out]), hb1⟩)
    have e1 : (s.toList == [115, 101, 116]) = false := by simpa using h1
    by_cases h2 : s.toList = [102, 108, 97, 110, 107]
    · have e3 : (s.toList == [102, 108, 97, 110, 107]) = true := by rw [h2]; rfl
      have HE : Hid (nmB s = false) := Lib.hid (by rw [HM.out, decide_eq_true h2]; simp)
      clear h2
      go_enter Tryd.func21, Tryd.ntmps21
      go_wp2_with (first
        | (go_at_call 20; refine KN.out.mono ?_; rintro e w1 ⟨rfl, hb1⟩)
        | fail)
      go_ret
      exact ⟨ret_bool (by rw [HE.out]), hb1⟩
    · have e3 : (s.toList == [102, 108, 97, 110, 107]) = false := by simpa using h2
      have HE : Hid (nmB s = true) := Lib.hid (by rw [HM.out, decide_eq_false h1, decide_eq_false h2]; rfl)
      clear h2
      go_enter Tryd.func21, Tryd.ntmps21
      go_wp2_with (first
        | (go_at_call 20; refine KN.out.mono ?_; rintro e w1 ⟨rfl, hb1⟩)
        | fail)
      go_ret
      exact ⟨ret_bool (by rw [HE.out]), hb1⟩

theorem str_eq (a b : ByteArray) : (a.toList == b.toList) = decide (a = b) := by
  rw [ByteArray.toList_eq, ByteArray.toList_eq, Bool.eq_iff_iff, decide_eq_true_iff, beq_iff_eq]
  constructor
  · intro h
    cases a; cases b
    simpa using h
  · rintro rfl
    rfl
def nb0 : ByteArray := .empty
def nmBad (l : List ByteArray) (i : Nat) : Bool := !nmB (l.getD i nb0) || (List.range i).any fun k => decide (l.getD k nb0 = l.getD i nb0)
/-- Names all, none twice. -/
def namesM (l : List ByteArray) : Bool := !((List.range l.length).any (nmBad l))
theorem names_stop {l : List ByteArray} {j : Nat} (hj : j < l.length) (h : nmBad l j = true) : namesM l = false := by
  unfold namesM
  rw [List.any_eq_true.2 ⟨j, List.mem_range.2 hj, h⟩]
  rfl
theorem names_all {l : List ByteArray} (h : ∀ j, j < l.length → nmBad l j = false) : namesM l = true := by
  unfold namesM
  rw [List.any_eq_false.2 (fun j hj => by rw [h j (List.mem_range.1 hj)]; decide)]
  rfl
set_option maxRecDepth 20000 in
set_option maxHeartbeats 4000000 in
theorem RefNames_calls (w : World) (hT : Tabs w) (A : Option Addr) (n c : Nat) (l : List ByteArray) (hA : Sl flS w A n c l) (hs : ∀ x ∈ l, x.size ≤ 4000000) :
    Calls Tryd.prog 24 #[.slice A n c] w fun e w' => e = .returned (.bool (namesM l)) ∧ Below w.heap.size w w' := by
  have HL := Lib.hid hA.len
  have HA := Lib.hid hA
  have HT := Lib.hid hT
  have HS := Lib.hid hs
  have hz := hA.sz
  have hcap := Nat.le_trans hA.le hA.cap
  clear hA hT hs
  go_enter Tryd.func24, Tryd.ntmps24
  go_wp2_with fail
  go_loopw [3] (fun i wr => ∃ k : Nat, k ≤ n ∧ i = .int .i64 k ∧ Hid (Below w.heap.size w wr ∧ ∀ j, j < k → nmBad l j = false)) (fun i _ => n - (intOf i).toNat)
  case atStart => exact ⟨0, by omega, rfl, Lib.hid ⟨Below.refl _ _, fun j h => absurd h (by omega)⟩⟩
  case round =>
    obtain ⟨k, hk, rfl, hr⟩ := hrel
    by_cases hlt : k < n
    · obtain ⟨b, off, x, rfl, hx, hc⟩ := HA.out.str hlt
      have hc := cell_stay hr.out.1 hc
      have KN := Lib.hid (RefName_calls wr (HT.out.stay hr.out.1) x (HS.out x (List.mem_of_getElem? hx)))
      have HX : Hid (l.getD k nb0 = x) := Lib.hid (by rw [List.getD_eq_getElem?_getD, hx]; rfl)
      have HSTOP := Lib.hid (fun (h : nmBad l k = true) => names_stop (by have := HL.out; omega) h)
      have HB := Lib.hid hr.out.1
      have HR := Lib.hid hr.out.2
      clear hx hr
      generalize hnb : nmB x = nb at *
      have HNB := Lib.hid hnb
      clear hnb
      cases nb with
      | false =>
        have HE := Lib.hid (HSTOP.out (by unfold nmBad; rw [HX.out, HNB.out]; rfl))
        go_wp2_with (first
          | (go_at_call 21; refine KN.out.mono ?_; rintro e w1 ⟨rfl, hb1⟩)
          | fail)
        go_ret
        exact ⟨ret_bool (by rw [HE.out]), below_more HB.out hb1⟩
      | true =>
        go_wp2_with (first
          | (go_at_call 21; refine KN.out.mono ?_; rintro e w1 ⟨rfl, hb1⟩; have hc := cell_stay hb1 hc; have HB := Lib.hid (below_more HB.out hb1); clear hb1)
          | fail)
        go_loopw [4] (fun i wr => ∃ j : Nat, j ≤ k ∧ i = .int .i64 j ∧ Hid (Below w1.heap.size w1 wr ∧ ∀ i, i < j → l.getD i nb0 ≠ x)) (fun i _ => k - (intOf i).toNat)
        case atStart => exact ⟨0, by omega, rfl, Lib.hid ⟨Below.refl _ _, fun j h => absurd h (by omega)⟩⟩
        case round =>
          obtain ⟨j, hj, rfl, hr⟩ := hrel
          have hc := cell_stay hr.out.1 hc
          by_cases hlt2 : j < k
          · obtain ⟨b2, off2, y, e2, hy, hcy⟩ := HA.out.str (j := j) (by omega)
            obtain ⟨rfl, rfl⟩ : b2 = b ∧ off2 = off := by injection e2 with e2; injection e2 with e3 e4; exact ⟨e3.symm, e4.symm⟩
            have hcy := cell_stay HB.out hcy
            have hcy := cell_stay hr.out.1 hcy
            have HY : Hid (l.getD j nb0 = y) := Lib.hid (by rw [List.getD_eq_getElem?_getD, hy]; rfl)
            have HB2 := Lib.hid hr.out.1
            have HR2 := Lib.hid hr.out.2
            clear hy hr e2
            by_cases he : y = x
            · have HE := Lib.hid (HSTOP.out (by
                unfold nmBad
                rw [HX.out, HNB.out, List.any_eq_true.2 ⟨j, List.mem_range.2 hlt2, by rw [HY.out]; exact decide_eq_true he⟩]
                rfl))
              subst he
              have h2 : (y.toList == y.toList) = true := by simp
              go_wp2_with fail
              go_quiet (fail)
              go_wp2_with fail
              go_ret
              exact ⟨ret_bool (by rw [HE.out]), below_drawn (below_more HB.out HB2.out) _⟩
            · have h1 : (y.toList == x.toList) = false := by rw [str_eq]; exact decide_eq_false he
              have HN : Hid (∀ i, i < j + 1 → l.getD i nb0 ≠ x) := Lib.hid (fun i hi => by
                rcases Nat.lt_or_ge i j with h | h
                · exact HR2.out i h
                · obtain rfl : i = j := by omega
                  rw [HY.out]; exact he)
              clear he
              go_wp2_with fail
              go_quiet (fail)
              go_wp2_with fail
              go_roundw
              case rel => exact ⟨j + 1, by omega, by go_num, Lib.hid ⟨below_drawn HB2.out _, HN.out⟩⟩
              case measure => simp [intOf]; omega
          · obtain rfl : j = k := by omega
            have HG : Hid (nmBad l j = false) := Lib.hid (by
              unfold nmBad
              rw [HX.out, HNB.out, List.any_eq_false.2 (fun i hi => by rw [decide_eq_false (hr.out.2 i (List.mem_range.1 hi))]; decide)]
              rfl)
            have HN : Hid (∀ i, i < j + 1 → nmBad l i = false) := Lib.hid (fun i hi => by
              rcases Nat.lt_or_ge i j with h | h
              · exact HR.out i h
              · obtain rfl : i = j := by omega
                exact HG.out)
            have HB2 := Lib.hid hr.out.1
            clear hlt2 hr
            go_wp2_with fail
            go_roundw
            case rel => exact ⟨j + 1, by omega, by go_num, Lib.hid ⟨below_more HB.out HB2.out, HN.out⟩⟩
            case measure => simp [intOf]; omega
    · obtain rfl : k = n := by omega
      have HE := Lib.hid (names_all (l := l) (fun j hj => hr.out.2 j (by have := HL.out; omega)))
      have HB := Lib.hid hr.out.1
      clear hlt hr
      go_wp2_with fail
      go_ret
      exact ⟨ret_bool (by rw [HE.out]), HB.out⟩
end Go.Proofs.YtmdnmiiggkfnfaaDoor

/- The reference's texts, Ints, sameNeeds: are two rows one? -/
set_option linter.unusedVariables false
set_option linter.unusedSimpArgs false
namespace Go.Proofs.YtmdnmiiggkfnfaaDoor
open Go.RowKit

theorem bytes_beq (a b : ByteArray) : (a == b) = decide (a = b) := by
  obtain ⟨a⟩ := a
  obtain ⟨b⟩ := b
  show (a == b) = _
  by_cases h : a = b <;> simp [h]
theorem eqv_pt (x y : Pt) : Eqv Tryd.prog 2 51 (.agg #[.string x.name, .int .i64 x.sec]) (.agg #[.string y.name, .int .i64 y.sec]) (decide (x = y)) := by
  have h := eqv_struct (P := Tryd.prog) (t := 51) (xs := #[.string x.name, .int .i64 x.sec]) (ys := #[.string y.name, .int .i64 y.sec]) Tryd.underlying51 (by kernel_rfl)
    (eqf_cons (by decide) (fun _ => by kernel_rfl) (fun _ => by kernel_rfl) (eqv_str Tryd.underlying9 x.name y.name) (eqf_cons (by decide) (fun _ => by kernel_rfl) (fun _ => by kernel_rfl) (eqv_int (q' := .i64) Tryd.underlying3 x.sec y.sec) eqf_nil))
  have e : (x.name == y.name && (x.sec == y.sec && true)) = decide (x = y) := by
    obtain ⟨a, b⟩ := x
    obtain ⟨c, d⟩ := y
    rw [bytes_beq, Bool.eq_iff_iff]
    simp
  rw [e] at h
  exact h
set_option maxRecDepth 20000 in
set_option maxHeartbeats 1000000 in
theorem Texts3_calls (A B : Option Addr) (n m c d : Nat) (xs ys : List ByteArray) (w : World) (hA : Sl flS w A n c xs) (hB : Sl flS w B m d ys) :
    Calls Tryd.prog 29 #[.slice A n c, .slice B m d] w fun e w' => e = .returned (.bool (decide (xs = ys))) ∧ Below w.heap.size w w' := by
  have h1 := hA.len
  have h2 := hB.len
  have hn := hA.sz
  have hm := hB.sz
  have hc1 := hA.cap
  have hc2 := hB.cap
  have hc3 := hA.le
  have hc4 := hB.le
  by_cases hne : n = m
  · have hb : ((n : Int) != (m : Int)) = false := by simp [hne]
    have HN := Lib.hid hne
    have H1 := Lib.hid h1
    have H2 := Lib.hid h2
    clear hne h1 h2
    go_enter Tryd.func29, Tryd.ntmps29
    go_wp2_with fail
    go_loopw [5] (fun i wr => ∃ k : Nat, k ≤ n ∧ i = .int .i64 k ∧ Hid (xs.take k = ys.take k) ∧ Below w.heap.size w wr) (fun i _ => n - (intOf i).toNat)
    case atStart => exact ⟨0, by omega, rfl, Lib.hid rfl, Below.refl _ _⟩
    case round =>
      obtain ⟨k, hk, rfl, hr, hbr⟩ := hrel
      by_cases hlt : k < n
      · obtain ⟨ba, oa, x, rfl, hx, ca0⟩ := hA.str hlt
        obtain ⟨bb, ob, y, rfl, hy, cb0⟩ := hB.str (j := k) (by have := HN.out; omega)
        have ca0 := cell_stay hbr ca0
        have cb0 := cell_stay hbr cb0
        have HX := Lib.hid hx
        have HY := Lib.hid hy
        clear hx hy
        have hkm : (k : Int) < m := by have := HN.out; omega
        by_cases hxy : x = y
        · have hq : (x.toList == y.toList) = true := by rw [str_eq]; exact decide_eq_true hxy
          have HXY := Lib.hid hxy
          clear hxy
          go_wp2_with fail
          go_quiet (fail)
          go_wp2_with fail
          go_roundw
          case rel => exact ⟨k + 1, by omega, by go_num, Lib.hid (take_eq_step HX.out HY.out hr.out HXY.out), below_drawn hbr _⟩
          case measure => simp [intOf]; omega
        · have hq : (x.toList == y.toList) = false := by rw [str_eq]; exact decide_eq_false hxy
          have HXY := Lib.hid hxy
          clear hxy
          go_wp2_with fail
          go_quiet (fail)
          go_wp2_with fail
          go_ret
          exact ⟨by rw [decide_eq_false (ne_of_at HX.out HY.out HXY.out)]; rfl, below_drawn hbr _⟩
      · have hkn : k = n := by omega
        have hfin : xs = ys := by
          have := hr.out
          rw [hkn, List.take_of_length_le (by have := H1.out; omega), List.take_of_length_le (by have := H2.out; have := HN.out; omega)] at this
          exact this
        have HF := Lib.hid hfin
        clear hkn hfin
        go_wp2_with fail
        go_ret
        exact ⟨by rw [decide_eq_true HF.out]; rfl, hbr⟩
  · have hb : ((n : Int) != (m : Int)) = true := by simp; omega
    have hll : ¬ xs = ys := by rintro rfl; omega
    have H3 := Lib.hid hll
    clear h1 h2 hll
    go_enter Tryd.func29, Tryd.ntmps29
    go_wp2_with fail
    go_ret
    exact ⟨by rw [decide_eq_false H3.out]; rfl, Below.refl _ _⟩
set_option maxRecDepth 20000 in
set_option maxHeartbeats 1000000 in
theorem Ints3_calls (A B : Option Addr) (n m c d : Nat) (xs ys : List Int) (w : World) (hA : Sl flI w A n c xs) (hB : Sl flI w B m d ys) :
    Calls Tryd.prog 30 #[.slice A n c, .slice B m d] w fun e w' => e = .returned (.bool (decide (xs = ys))) ∧ Below w.heap.size w w' := by
  have h1 := hA.len
  have h2 := hB.len
  have hn := hA.sz
  have hm := hB.sz
  have hc1 := hA.cap
  have hc2 := hB.cap
  have hc3 := hA.le
  have hc4 := hB.le
  by_cases hne : n = m
  · have hb : ((n : Int) != (m : Int)) = false := by simp [hne]
    have HN := Lib.hid hne
    have H1 := Lib.hid h1
    have H2 := Lib.hid h2
    clear hne h1 h2
    go_enter Tryd.func30, Tryd.ntmps30
    go_wp2_with fail
    go_loopw [5] (fun i wr => ∃ k : Nat, k ≤ n ∧ i = .int .i64 k ∧ Hid (xs.take k = ys.take k) ∧ Below w.heap.size w wr) (fun i _ => n - (intOf i).toNat)
    case atStart => exact ⟨0, by omega, rfl, Lib.hid rfl, Below.refl _ _⟩
    case round =>
      obtain ⟨k, hk, rfl, hr, hbr⟩ := hrel
      by_cases hlt : k < n
      · obtain ⟨ba, oa, x, rfl, hx, ca0⟩ := hA.int hlt
        obtain ⟨bb, ob, y, rfl, hy, cb0⟩ := hB.int (j := k) (by have := HN.out; omega)
        have ca0 := cell_stay hbr ca0
        have cb0 := cell_stay hbr cb0
        have HX := Lib.hid hx
        have HY := Lib.hid hy
        clear hx hy
        have hkm : (k : Int) < m := by have := HN.out; omega
        by_cases hxy : x = y
        · have hq : (x != y) = false := by simp [hxy]
          have HXY := Lib.hid hxy
          clear hxy
          go_wp2_with fail
          go_quiet (fail)
          go_wp2_with fail
          go_roundw
          case rel => exact ⟨k + 1, by omega, by go_num, Lib.hid (take_eq_step HX.out HY.out hr.out HXY.out), below_drawn hbr _⟩
          case measure => simp [intOf]; omega
        · have hq : (x != y) = true := by simp [hxy]
          have HXY := Lib.hid hxy
          clear hxy
          go_wp2_with fail
          go_quiet (fail)
          go_wp2_with fail
          go_ret
          exact ⟨by rw [decide_eq_false (ne_of_at HX.out HY.out HXY.out)]; rfl, below_drawn hbr _⟩
      · have hkn : k = n := by omega
        have hfin : xs = ys := by
          have := hr.out
          rw [hkn, List.take_of_length_le (by have := H1.out; omega), List.take_of_length_le (by have := H2.out; have := HN.out; omega)] at this
          exact this
        have HF := Lib.hid hfin
        clear hkn hfin
        go_wp2_with fail
        go_ret
        exact ⟨by rw [decide_eq_true HF.out]; rfl, hbr⟩
  · have hb : ((n : Int) != (m : Int)) = true := by simp; omega
    have hll : ¬ xs = ys := by rintro rfl; omega
    have H3 := Lib.hid hll
    clear h1 h2 hll
    go_enter Tryd.func30, Tryd.ntmps30
    go_wp2_with fail
    go_ret
    exact ⟨by rw [decide_eq_false H3.out]; rfl, Below.refl _ _⟩
set_option maxRecDepth 20000 in
set_option maxHeartbeats 1000000 in
theorem Needs3_calls (A B : Option Addr) (n m c d : Nat) (xs ys : List Need) (w : World) (hA : Sl flN w A n c xs) (hB : Sl flN w B m d ys) :
    Calls Tryd.prog 31 #[.slice A n c, .slice B m d] w fun e w' => e = .returned (.bool (decide (xs = ys))) ∧ Below w.heap.size w w' := by
  have h1 := hA.len
  have h2 := hB.len
  have hn := hA.sz
  have hm := hB.sz
  have hc1 := hA.cap
  have hc2 := hB.cap
  have hc3 := hA.le
  have hc4 := hB.le
  by_cases hne : n = m
  · have hb : ((n : Int) != (m : Int)) = false := by simp [hne]
    have HN := Lib.hid hne
    have H1 := Lib.hid h1
    have H2 := Lib.hid h2
    clear hne h1 h2
    go_enter Tryd.func31, Tryd.ntmps31
    go_wp2_with fail
    go_loopw [5] (fun i wr => ∃ k : Nat, k ≤ n ∧ i = .int .i64 k ∧ Hid (xs.take k = ys.take k) ∧ Below w.heap.size w wr) (fun i _ => n - (intOf i).toNat)
    case atStart => exact ⟨0, by omega, rfl, Lib.hid rfl, Below.refl _ _⟩
    case round =>
      obtain ⟨k, hk, rfl, hr, hbr⟩ := hrel
      by_cases hlt : k < n
      · obtain ⟨ba, oa, x, rfl, hx, ca0, ca1⟩ := hA.need hlt
        obtain ⟨bb, ob, y, rfl, hy, cb0, cb1⟩ := hB.need (j := k) (by have := HN.out; omega)
        have ca0 := cell_stay hbr ca0
        have ca1 := cell_stay hbr ca1
        have cb0 := cell_stay hbr cb0
        have cb1 := cell_stay hbr cb1
        have HX := Lib.hid hx
        have HY := Lib.hid hy
        clear hx hy
        have hkm : (k : Int) < m := by have := HN.out; omega
        by_cases hxy : x = y
        · have hq := run_neq_of (eqv_need x y) (by omega)
          rw [decide_eq_true hxy] at hq
          have HXY := Lib.hid hxy
          clear hxy
          go_wp2_with fail
          go_quiet (fail)
          go_wp2_with fail
          go_roundw
          case rel => exact ⟨k + 1, by omega, by go_num, Lib.hid (take_eq_step HX.out HY.out hr.out HXY.out), below_drawn hbr _⟩
          case measure => simp [intOf]; omega
        · have hq := run_neq_of (eqv_need x y) (by omega)
          rw [decide_eq_false hxy] at hq
          have HXY := Lib.hid hxy
          clear hxy
          go_wp2_with fail
          go_quiet (fail)
          go_wp2_with fail
          go_ret
          exact ⟨by rw [decide_eq_false (ne_of_at HX.out HY.out HXY.out)]; rfl, below_drawn hbr _⟩
      · have hkn : k = n := by omega
        have hfin : xs = ys := by
          have := hr.out
          rw [hkn, List.take_of_length_le (by have := H1.out; omega), List.take_of_length_le (by have := H2.out; have := HN.out; omega)] at this
          exact this
        have HF := Lib.hid hfin
        clear hkn hfin
        go_wp2_with fail
        go_ret
        exact ⟨by rw [decide_eq_true HF.out]; rfl, hbr⟩
  · have hb : ((n : Int) != (m : Int)) = true := by simp; omega
    have hll : ¬ xs = ys := by rintro rfl; omega
    have H3 := Lib.hid hll
    clear h1 h2 hll
    go_enter Tryd.func31, Tryd.ntmps31
    go_wp2_with fail
    go_ret
    exact ⟨by rw [decide_eq_false H3.out]; rfl, Below.refl _ _⟩
end Go.Proofs.YtmdnmiiggkfnfaaDoor

/- Contract: the reference's Is. -/
set_option linter.unusedVariables false
set_option linter.unusedSimpArgs false
namespace Go.Proofs.YtmdnmiiggkfnfaaDoor
open Go.RowKit

def sizesOk (L : Lay) : Bool := decide (1 ≤ L.secs.length) && decide (L.secs.length ≤ 10) && decide (1 ≤ L.sigs.length) && decide (L.sigs.length ≤ 6) && decide (L.pts.length ≤ 5) && decide (L.rtes.length ≤ 6)
def ptBad (L : Lay) (j : Nat) : Bool := decide (secOf L j < 0) || decide ((L.secs.length : Int) ≤ secOf L j)
def rtBad (L : Lay) (j : Nat) : Bool := match L.rtes[j]? with
  | some x => !routeM L x
  | none => false
/-- May a layout be? -/
def isM (L : Lay) : Bool := sizesOk L && !((List.range L.pts.length).any (ptBad L)) && (namesM L.secs && namesM L.sigs && namesM (L.pts.map Pt.name) && namesM (L.rtes.map Rte.name)) && !((List.range L.rtes.length).any (rtBad L))
theorem is_sizes {L : Lay} (h : sizesOk L = false) : isM L = false := by unfold isM; rw [h]; rfl
theorem is_pt {L : Lay} {j : Nat} (hj : j < L.pts.length) (h : ptBad L j = true) : isM L = false := by
  unfold isM
  rw [List.any_eq_true.2 ⟨j, List.mem_range.2 hj, h⟩]
  simp
theorem is_rest {L : Lay} (h : sizesOk L = true) (hp : ∀ j, j < L.pts.length → ptBad L j = false) : isM L = ((namesM L.secs && namesM L.sigs && namesM (L.pts.map Pt.name) && namesM (L.rtes.map Rte.name)) && !((List.range L.rtes.length).any (rtBad L))) := by
  unfold isM
  rw [h, List.any_eq_false.2 (fun j hj => by rw [hp j (List.mem_range.1 hj)]; decide)]
  simp
theorem info_str : (Tryd.prog.info? 9).map (fun i => (i.zero, i.size, i.bytes)) = some (some (.string .empty), 1, 16) := by kernel_rfl
theorem map_take {α β : Type} (f : α → β) {xs : List α} {k : Nat} {y : α} (h : xs[k]? = some y) : (xs.take (k + 1)).map f = (xs.take k).map f ++ [f y] := by
  rw [List.take_add_one, h, List.map_append]
  rfl
theorem sl_own {α : Type} {f : Fl α} {w : World} {base n c : Nat} {A : Option Addr} {e : TypeId} {xs : List α} (h : Ow f w base e (.slice A n c) xs) (hs : 0 < f.sz) (hl : xs.length ≤ 1000000) : Sl f w A n c xs := by
  obtain ⟨A', c', e', hr⟩ := h.read hs
  injection e' with e1 e2 e3
  subst e1 e2 e3
  rcases h.2 with ⟨hv, h0⟩ | ⟨g, cap, cur, hv, _, _, h1, h2, _, _⟩
  · injection hv with _ _ h3
    exact ⟨hr, by omega, by omega, by omega⟩
  · injection hv with _ _ h3
    subst h3
    exact ⟨hr, h1, h2, by omega⟩
section
variable {L : Lay} {A1 A2 A3 A4 : Option Addr} {n1 c1 n2 c2 n3 c3 n4 c4 : Nat}
set_option maxRecDepth 20000 in
set_option maxHeartbeats 8000000 in
theorem RefIs_calls (w : World) (hT : Tabs w) (hL : LayV w L A1 A2 A3 A4 n1 c1 n2 c2 n3 c3 n4 c4) (hN : NmOk L 4000000) :
    Calls Tryd.prog 13 #[.agg #[.slice A1 n1 c1, .slice A2 n2 c2, .slice A3 n3 c3, .slice A4 n4 c4]] w fun e w' => e = .returned (.bool (isM L)) ∧ Below w.heap.size w w' := by
  obtain ⟨i0, hi0, hz0, hz1, hz2⟩ := info_parts info_str
  have hbw := below_new w (.cells #[.slice A1 n1 c1, .slice A2 n2 c2, .slice A3 n3 c3, .slice A4 n4 c4] 26)
  have hB := Blk.new w #[.slice A1 n1 c1, .slice A2 n2 c2, .slice A3 n3 c3, .slice A4 n4 c4] 26 (0, 0)
  have HX : Hid (LayX _ w.heap.size L A1 A2 A3 A4 n1 c1 n2 c2 n3 c3 n4 c4) := Lib.hid ⟨hB.cell 0, hB.cell 1, hB.cell 2, hB.cell 3, hL.stay hbw⟩
  have b0 := HX.out.b0
  have b1 := HX.out.b1
  have b2 := HX.out.b2
  have b3 := HX.out.b3
  have z1 := hL.secs.sz
  have z2 := hL.pts.sz
  have z3 := hL.sigs.sz
  have z4 := hL.rtes.rd.2.1
  have q1 := Nat.le_trans hL.secs.le hL.secs.cap
  have q2 := Nat.le_trans hL.pts.le hL.pts.cap
  have q3 := Nat.le_trans hL.sigs.le hL.sigs.cap
  have q4 := Nat.le_trans hL.rtes.le hL.rtes.cap
  have HLEN := Lib.hid (And.intro hL.secs.len (And.intro hL.pts.len (And.intro hL.sigs.len hL.rtes.len)))
  have HBW := Lib.hid hbw
  have HT := Lib.hid (hT.stay hbw)
  have HN := Lib.hid hN
  have HSTOP := Lib.hid (fun h => is_sizes (L := L) h)
  have HEQ : Hid (sizesOk L = (decide (1 ≤ n1) && decide (n1 ≤ 10) && decide (1 ≤ n3) && decide (n3 ≤ 6) && decide (n2 ≤ 5) && decide (n4 ≤ 6))) := Lib.hid (by
    unfold sizesOk
    rw [HLEN.out.1, HLEN.out.2.1, HLEN.out.2.2.1, HLEN.out.2.2.2])
  clear hL hB hbw hT hN
  by_cases h1 : n1 < 1
  · have h1' : (n1 : Int) < 1 := by omega
    have HE := Lib.hid (HSTOP.out (by rw [HEQ.out, decide_eq_false (by omega)]; rfl))
    go_enter Tryd.func13, Tryd.ntmps13
    go_wp2_with fail
    go_ret
    exact ⟨ret_bool (by rw [HE.out]), HBW.out⟩
  by_cases h2 : 10 < n1
  · have h2' : (10 : Int) < n1 := by omega
    have HE := Lib.hid (HSTOP.out (by rw [HEQ.out, decide_eq_false (p := n1 ≤ 10) (by omega)]; simp))
    go_enter Tryd.func13, Tryd.ntmps13
    go_wp2_with fail
    go_ret
    exact ⟨ret_bool (by rw [HE.out]), HBW.out⟩
  by_cases h3 : n3 < 1
  · have h3' : (n3 : Int) < 1 := by omega
    have HE := Lib.hid (HSTOP.out (by rw [HEQ.out, decide_eq_false (p := 1 ≤ n3) (by omega)]; simp))
    go_enter Tryd.func13, Tryd.ntmps13
    go_wp2_with fail
    go_ret
    exact ⟨ret_bool (by rw [HE.out]), HBW.out⟩
  by_cases h4 : 6 < n3
  · have h4' : (6 : Int) < n3 := by omega
    have HE := Lib.hid (HSTOP.out (by rw [HEQ.out, decide_eq_false (p := n3 ≤ 6) (by omega)]; simp))
    go_enter Tryd.func13, Tryd.ntmps13
    go_wp2_with fail
    go_ret
    exact ⟨ret_bool (by rw [HE.out]), HBW.out⟩
  by_cases h5 : 5 < n2
  · have h5' : (5 : Int) < n2 := by omega
    have HE := Lib.hid (HSTOP.out (by rw [HEQ.out, decide_eq_false (p := n2 ≤ 5) (by omega)]; simp))
    go_enter Tryd.func13, Tryd.ntmps13
    go_wp2_with fail
    go_ret
    exact ⟨ret_bool (by rw [HE.out]), HBW.out⟩
  by_cases h6 : 6 < n4
  · have h6' : (6 : Int) < n4 := by omega
    have HE := Lib.hid (HSTOP.out (by rw [HEQ.out, decide_eq_false (p := n4 ≤ 6) (by omega)]; simp))
    go_enter Tryd.func13, Tryd.ntmps13
    go_wp2_with fail
    go_ret
    exact ⟨ret_bool (by rw [HE.out]), HBW.out⟩
  have HOK : Hid (sizesOk L = true) := Lib.hid (by
    rw [HEQ.out, decide_eq_true (p := 1 ≤ n1) (by omega), decide_eq_true (p := n1 ≤ 10) (by omega), decide_eq_true (p := 1 ≤ n3) (by omega), decide_eq_true (p := n3 ≤ 6) (by omega), decide_eq_true (p := n2 ≤ 5) (by omega), decide_eq_true (p := n4 ≤ 6) (by omega)]
    rfl)
  clear HEQ HSTOP
  have g1 : (1 : Int) ≤ n1 := by omega
  have g2 : (n1 : Int) ≤ 10 := by omega
  have g3 : (1 : Int) ≤ n3 := by omega
  have g4 : (n3 : Int) ≤ 6 := by omega
  have g5 : (n2 : Int) ≤ 5 := by omega
  have g6 : (n4 : Int) ≤ 6 := by omega
  clear h1 h2 h3 h4 h5 h6
  go_enter Tryd.func13, Tryd.ntmps13
  go_wp2_with fail
  generalize (w.alloc (.cells #[.slice A1 n1 c1, .slice A2 n2 c2, .slice A3 n3 c3, .slice A4 n4 c4] 26)) = w0 at *
  generalize hgn : w.heap.size = gn at *
  have HGN := Lib.hid hgn
  clear hgn
  go_loopw [3, 5] (fun t i wr => ∃ k : Nat, k ≤ n2 ∧ i = .int .i64 k ∧ Hid (Ow flS wr w0.heap.size 9 t ((L.pts.take k).map Pt.name) ∧ Below w0.heap.size w0 wr ∧ ∀ j, j < k → ptBad L j = false)) (fun _ i _ => n2 - (intOf i).toNat)
  case atStart => exact ⟨0, by omega, rfl, Lib.hid ⟨Ow.nil_ _ _ _ _, Below.refl _ _, fun j h => absurd h (by omega)⟩⟩
  case round =>
    obtain ⟨k, hk, rfl, hr⟩ := hrel
    obtain ⟨ho, hb, hf⟩ := hr.out
    obtain ⟨Av, cv, rfl⟩ := row_form ho
    have hnl : ((L.pts.take k).map Pt.name).length ≤ 5 := by rw [List.length_map, List.length_take]; omega
    generalize hns : (L.pts.take k).map Pt.name = ns at *
    have HNS := Lib.hid hns
    have HF := Lib.hid hf
    have HO := Lib.hid ho
    have HB := Lib.hid hb
    have b1 := cell_stay hb HX.out.b1
    clear hns hf ho hr
    by_cases hlt : k < n2
    · obtain ⟨b, off, y, rfl, hy, d1, d2⟩ := HX.out.v.pts.pt hlt
      have d1w := cell_stay hb d1
      have HTK := Lib.hid (map_take Pt.name hy)
      have HSC : Hid (secOf L k = y.sec) := Lib.hid (by unfold secOf; rw [Int.toNat_natCast, hy]; rfl)
      have HSTOP := Lib.hid (fun (h : ptBad L k = true) => is_pt (by have := HLEN.out; omega) h)
      have HM : Hid (ptBad L k = (decide (y.sec < 0) || decide ((n1 : Int) ≤ y.sec))) := Lib.hid (by unfold ptBad; rw [HSC.out, HLEN.out.1])
      have hsz := hb.size
      clear hy hb
      go_wp2_with (at_builtin; refine wpList_append_any _ rfl (.tmp 49) (.tmp 56) _ rfl w0.heap.size 9 i0 _ 1 16 Tryd.underlying22 hi0 hz0 hz1 hz2 rfl (by omega) _ ns.length (ns.flatMap flS.enc) rfl (HO.out.alloc _) (wr.heap.size + 1) (some ⟨wr.heap.size, 0, none⟩) 1 1 (flS.enc y.name) rfl (box_reads flS wr _ _ y.name rfl) (flS.one _) (by simp only [maxLen]; omega) (by omega) (by simp; omega) ?_; intro v1 w1 hown1 hg1 hat1; have HB1 := Lib.hid ((HB.out.alloc HB.out.size _).grown hg1 (by simp; omega) HO.out.base_); have HO1 := Lib.hid (Ow.snoc hown1); obtain ⟨A5, c5, rfl⟩ := row_form hown1; clear hown1 hg1 hat1)
      have b1 := later_cell (HX.out.stay HB1.out).b1
      have b0 := later_cell (HX.out.stay HB1.out).b0
      have d2 := later_cell (cell_stay HB1.out d2)
      have HBW1 := Lib.hid (below_more (by rw [HGN.out]; exact HBW.out) HB1.out)
      by_cases v1 : y.sec < 0
      · have g7 : decide (y.sec < 0) = true := decide_eq_true v1
        have HE := Lib.hid (HSTOP.out (by rw [HM.out, g7]; rfl))
        refine wp_region_later (by kernel_rfl) (by kernel_rfl) ?_
        repeat (go_big_quiet_step (fail))
        refine wpQuiet_nil ?_
        intro q0
        go_wp2_with fail
        go_ret
        exact ⟨ret_bool (by rw [HE.out]), below_more HBW1.out q0.hb⟩
      have g7 : decide (y.sec < 0) = false := decide_eq_false v1
      by_cases v2 : (n1 : Int) ≤ y.sec
      · have g8 : decide ((n1 : Int) ≤ y.sec) = true := decide_eq_true v2
        have HE := Lib.hid (HSTOP.out (by rw [HM.out, g8]; simp))
        refine wp_region_later (by kernel_rfl) (by kernel_rfl) ?_
        repeat (go_big_quiet_step (fail))
        refine wpQuiet_nil ?_
        intro q0
        go_wp2_with fail
        go_ret
        exact ⟨ret_bool (by rw [HE.out]), below_more HBW1.out q0.hb⟩
      · have g8 : decide ((n1 : Int) ≤ y.sec) = false := decide_eq_false v2
        have HN : Hid (∀ j, j < k + 1 → ptBad L j = false) := Lib.hid (fun j hj => by
          rcases Nat.lt_or_ge j k with h | h
          · exact HF.out j h
          · obtain rfl : j = k := by omega
            rw [HM.out, g7, g8]; rfl)
        refine wp_region_later (by kernel_rfl) (by kernel_rfl) ?_
        repeat (go_big_quiet_step (fail))
        refine wpQuiet_nil ?_
        intro q0
        go_wp2_with fail
        go_roundw
        case rel => exact ⟨k + 1, by omega, by go_num, Lib.hid ⟨by rw [HTK.out, HNS.out]; exact HO1.out.stay q0.hb, below_more HB1.out q0.hb, HN.out⟩⟩
        case measure => simp [intOf]; omega
    · obtain rfl : k = n2 := by omega
      have HPN : Hid (ns = L.pts.map Pt.name) := Lib.hid (by rw [← HNS.out, List.take_of_length_le (by have := HLEN.out; omega)])
      have HRST := Lib.hid (is_rest HOK.out (fun j hj => HF.out j (by have := HLEN.out; omega)))
      have HBW1 := Lib.hid (below_more (by rw [HGN.out]; exact HBW.out) HB.out)
      clear hlt
      go_wp2_with fail
      have hsz := hb.size
      generalize hw5 : wr = w5 at *
      clear hw5 hb
      go_loopw [4, 6] (fun t i wr => ∃ k : Nat, k ≤ n4 ∧ i = .int .i64 k ∧ Hid (Ow flS wr w5.heap.size 9 t ((L.rtes.take k).map Rte.name) ∧ Below w5.heap.size w5 wr)) (fun _ i _ => n4 - (intOf i).toNat)
      case atStart => exact ⟨0, by omega, rfl, Lib.hid ⟨Ow.nil_ _ _ _ _, Below.refl _ _⟩⟩
      case round =>
        obtain ⟨m, hm, rfl, hr⟩ := hrel
        obtain ⟨ho, hb⟩ := hr.out
        obtain ⟨Au, cu, rfl⟩ := row_form ho
        have hml : ((L.rtes.take m).map Rte.name).length ≤ 6 := by rw [List.length_map, List.length_take]; omega
        generalize hms : (L.rtes.take m).map Rte.name = ms at *
        have HMS := Lib.hid hms
        have HO2 := Lib.hid ho
        have HB2 := Lib.hid hb
        have HB3 := Lib.hid (below_more HB.out hb)
        have b3 := cell_stay HB3.out HX.out.b3
        have hsz2 := HB2.out.size
        clear hms ho hr hb
        by_cases hlt : m < n4
        · obtain ⟨b, off, x, P, Q, F, p, pc, q, qc, f, fc, rfl, hx, e0, e1, e2, e3, e4, e5, hv⟩ := HX.out.v.rtes.at_ hlt
          have e0 := cell_stay HB3.out e0
          have HTK := Lib.hid (map_take Rte.name hx)
          clear hx hv e1 e2 e3 e4 e5
          go_wp2_with (at_builtin; refine wpList_append_any _ rfl (.tmp 84) (.tmp 91) _ rfl w5.heap.size 9 i0 _ 1 16 Tryd.underlying22 hi0 hz0 hz1 hz2 rfl (by omega) _ ms.length (ms.flatMap flS.enc) rfl (HO2.out.alloc _) (wr.heap.size + 1) (some ⟨wr.heap.size, 0, none⟩) 1 1 (flS.enc x.name) rfl (box_reads flS wr _ _ x.name rfl) (flS.one _) (by simp only [maxLen]; omega) (by omega) (by simp; omega) ?_; intro v1 w1 hown1 hg1 hat1; have HB4 := Lib.hid ((HB2.out.alloc HB2.out.size _).grown hg1 (by simp; omega) HO2.out.base_); have HO3 := Lib.hid (Ow.snoc hown1); obtain ⟨A5, c5, rfl⟩ := row_form hown1; clear hown1 hg1 hat1)
          go_roundw
          case rel => exact ⟨m + 1, by omega, by go_num, Lib.hid ⟨by rw [HTK.out, HMS.out]; exact HO3.out, HB4.out⟩⟩
          case measure => simp [intOf]; omega
        · obtain rfl : m = n4 := by omega
          have HRN : Hid (ms = L.rtes.map Rte.name) := Lib.hid (by rw [← HMS.out, List.take_of_length_le (by have := HLEN.out; omega)])
          have HXr := Lib.hid (HX.out.stay HB3.out)
          have HBF := Lib.hid (below_more (by rw [HGN.out]; exact HBW.out) HB3.out)
          have b0 := HXr.out.b0
          have b2 := HXr.out.b2
          have KN1 := Lib.hid (fun (W : World) (hW : Below wr.heap.size wr W) => RefNames_calls W (HT.out.stay (below_more HB3.out hW)) _ _ _ _ (HXr.out.v.secs.stay hW) HN.out.secs)
          have KN2 := Lib.hid (fun (W : World) (hW : Below wr.heap.size wr W) => RefNames_calls W (HT.out.stay (below_more HB3.out hW)) _ _ _ _ (HXr.out.v.sigs.stay hW) HN.out.sigs)
          have KN3 := Lib.hid (fun (W : World) (hW : Below wr.heap.size wr W) => RefNames_calls W (HT.out.stay (below_more HB3.out hW)) _ _ _ _ ((sl_own (HO.out.stay HB2.out) (by decide) (by omega)).stay hW) (by rw [HPN.out]; exact fun x hx => by obtain ⟨y, hy, rfl⟩ := List.mem_map.1 hx; exact HN.out.pts y hy))
          have KN4 := Lib.hid (fun (W : World) (hW : Below wr.heap.size wr W) => RefNames_calls W (HT.out.stay (below_more HB3.out hW)) _ _ _ _ ((sl_own HO2.out (by decide) (by omega)).stay hW) (by rw [HRN.out]; exact fun x hx => by obtain ⟨y, hy, rfl⟩ := List.mem_map.1 hx; exact HN.out.rtes y hy))
          have HC := Lib.hid (Below.refl wr.heap.size wr)
          rw [← HPN.out, ← HRN.out] at HRST
          clear hlt
          generalize namesM L.secs = na at *
          generalize namesM L.sigs = nb at *
          generalize namesM ns = nc at *
          generalize namesM ms = nd at *
          cases na with
          | false =>
            go_wp2_with (first
              | (go_at_call 24; (with_reducible refine (KN1.out _ HC.out).mono ?_); rintro e w6 ⟨rfl, hb6⟩; have HC := Lib.hid (below_more HC.out hb6); have b0 := cell_stay hb6 b0; have b2 := cell_stay hb6 b2; clear hb6)
              | (go_at_call 24; (with_reducible refine (KN2.out _ HC.out).mono ?_); rintro e w7 ⟨rfl, hb7⟩; have HC := Lib.hid (below_more HC.out hb7); clear hb7)
              | (go_at_call 24; (with_reducible refine (KN3.out _ HC.out).mono ?_); rintro e w8 ⟨rfl, hb8⟩; have HC := Lib.hid (below_more HC.out hb8); clear hb8)
              | (go_at_call 24; (with_reducible refine (KN4.out _ HC.out).mono ?_); rintro e w9 ⟨rfl, hb9⟩; have HC := Lib.hid (below_more HC.out hb9); clear hb9)
              | fail)
            go_ret
            exact ⟨ret_bool (by rw [HRST.out]; rfl), below_more HBF.out HC.out⟩
          | true =>
          cases nb with
          | false =>
            go_wp2_with (first
              | (go_at_call 24; (with_reducible refine (KN1.out _ HC.out).mono ?_); rintro e w6 ⟨rfl, hb6⟩; have HC := Lib.hid (below_more HC.out hb6); have b0 := cell_stay hb6 b0; have b2 := cell_stay hb6 b2; clear hb6)
              | (go_at_call 24; (with_reducible refine (KN2.out _ HC.out).mono ?_); rintro e w7 ⟨rfl, hb7⟩; have HC := Lib.hid (below_more HC.out hb7); clear hb7)
              | (go_at_call 24; (with_reducible refine (KN3.out _ HC.out).mono ?_); rintro e w8 ⟨rfl, hb8⟩; have HC := Lib.hid (below_more HC.out hb8); clear hb8)
              | (go_at_call 24; (with_reducible refine (KN4.out _ HC.out).mono ?_); rintro e w9 ⟨rfl, hb9⟩; have HC := Lib.hid (below_more HC.out hb9); clear hb9)
              | fail)
            go_ret
            exact ⟨ret_bool (by rw [HRST.out]; rfl), below_more HBF.out HC.out⟩
          | true =>
          cases nc with
          | false =>
            go_wp2_with (first
              | (go_at_call 24; (with_reducible refine (KN1.out _ HC.out).mono ?_); rintro e w6 ⟨rfl, hb6⟩; have HC := Lib.hid (below_more HC.out hb6); have b0 := cell_stay hb6 b0; have b2 := cell_stay hb6 b2; clear hb6)
              | (go_at_call 24; (with_reducible refine (KN2.out _ HC.out).mono ?_); rintro e w7 ⟨rfl, hb7⟩; have HC := Lib.hid (below_more HC.out hb7); clear hb7)
              | (go_at_call 24; (with_reducible refine (KN3.out _ HC.out).mono ?_); rintro e w8 ⟨rfl, hb8⟩; have HC := Lib.hid (below_more HC.out hb8); clear hb8)
              | (go_at_call 24; (with_reducible refine (KN4.out _ HC.out).mono ?_); rintro e w9 ⟨rfl, hb9⟩; have HC := Lib.hid (below_more HC.out hb9); clear hb9)
              | fail)
            go_ret
            exact ⟨ret_bool (by rw [HRST.out]; rfl), below_more HBF.out HC.out⟩
          | true =>
          cases nd with
          | false =>
            go_wp2_with (first
              | (go_at_call 24; (with_reducible refine (KN1.out _ HC.out).mono ?_); rintro e w6 ⟨rfl, hb6⟩; have HC := Lib.hid (below_more HC.out hb6); have b0 := cell_stay hb6 b0; have b2 := cell_stay hb6 b2; clear hb6)
              | (go_at_call 24; (with_reducible refine (KN2.out _ HC.out).mono ?_); rintro e w7 ⟨rfl, hb7⟩; have HC := Lib.hid (below_more HC.out hb7); clear hb7)
              | (go_at_call 24; (with_reducible refine (KN3.out _ HC.out).mono ?_); rintro e w8 ⟨rfl, hb8⟩; have HC := Lib.hid (below_more HC.out hb8); clear hb8)
              | (go_at_call 24; (with_reducible refine (KN4.out _ HC.out).mono ?_); rintro e w9 ⟨rfl, hb9⟩; have HC := Lib.hid (below_more HC.out hb9); clear hb9)
              | fail)
            go_ret
            exact ⟨ret_bool (by rw [HRST.out]; rfl), below_more HBF.out HC.out⟩
          | true =>
            have HRST : Hid (isM L = !((List.range L.rtes.length).any (rtBad L))) := Lib.hid (by rw [HRST.out]; rfl)
            go_wp2_with (first
              | (go_at_call 24; (with_reducible refine (KN1.out _ HC.out).mono ?_); rintro e w6 ⟨rfl, hb6⟩; have HC := Lib.hid (below_more HC.out hb6); have b0 := cell_stay hb6 b0; have b2 := cell_stay hb6 b2; clear hb6)
              | (go_at_call 24; (with_reducible refine (KN2.out _ HC.out).mono ?_); rintro e w7 ⟨rfl, hb7⟩; have HC := Lib.hid (below_more HC.out hb7); clear hb7)
              | (go_at_call 24; (with_reducible refine (KN3.out _ HC.out).mono ?_); rintro e w8 ⟨rfl, hb8⟩; have HC := Lib.hid (below_more HC.out hb8); clear hb8)
              | (go_at_call 24; (with_reducible refine (KN4.out _ HC.out).mono ?_); rintro e w9 ⟨rfl, hb9⟩; have HC := Lib.hid (below_more HC.out hb9); clear hb9)
              | fail)
            have HB5 := Lib.hid (below_more HB3.out HC.out)
            have b3 := cell_stay HB5.out HX.out.b3
            clear KN1 KN2 KN3 KN4 b0 b2
            go_loopw [7] (fun i wr => ∃ k : Nat, k ≤ m ∧ i = .int .i64 k ∧ Hid (Below w9.heap.size w9 wr ∧ ∀ j, j < k → rtBad L j = false)) (fun i _ => m - (intOf i).toNat)
            case atStart => exact ⟨0, by omega, rfl, Lib.hid ⟨Below.refl _ _, fun j h => absurd h (by omega)⟩⟩
            case round =>
              obtain ⟨k, hk, rfl, hr⟩ := hrel
              have HB6 := Lib.hid (below_more HB5.out hr.out.1)
              have HR := Lib.hid hr.out.2
              have HB7 := Lib.hid hr.out.1
              have HXq := Lib.hid (HX.out.stay HB6.out)
              have b3 := HXq.out.b3
              have HBG := Lib.hid (below_more (by rw [HGN.out]; exact HBW.out) HB6.out)
              clear hr
              by_cases hlt : k < m
              · obtain ⟨b, off, x, P, Q, F, p, pc, q, qc, f, fc, rfl, hx, e0, e1, e2, e3, e4, e5, hv⟩ := HX.out.v.rtes.at_ hlt
                have HM : Hid (rtBad L k = !routeM L x) := Lib.hid (by unfold rtBad; rw [hx])
                have HV := Lib.hid (hv.stay HB6.out)
                have KR := Lib.hid (fun q : Later wr => RefRoute_calls q.w1 (HXq.out.v.stay q.hb) (HV.out.stay q.hb))
                have HL := HLEN.out.2.2.2
                have HKL : Hid (k < L.rtes.length) := Lib.hid (by omega)
                have e0L := later_cell (cell_stay HB6.out e0)
                have e1L := later_cell (cell_stay HB6.out e1)
                have e2L := later_cell (cell_stay HB6.out e2)
                have e3L := later_cell (cell_stay HB6.out e3)
                have e4L := later_cell (cell_stay HB6.out e4)
                have e5L := later_cell (cell_stay HB6.out e5)
                have b0L := later_cell HXq.out.b0
                have b1L := later_cell HXq.out.b1
                have b2L := later_cell HXq.out.b2
                have b3L := later_cell HXq.out.b3
                clear hx hv e0 e1 e2 e3 e4 e5 HL
                generalize routeM L x = z at *
                cases z with
                | true =>
                  have HN : Hid (∀ j, j < k + 1 → rtBad L j = false) := Lib.hid (fun j hj => by
                    rcases Nat.lt_or_ge j k with h | h
                    · exact HR.out j h
                    · obtain rfl : j = k := by omega
                      exact HM.out)
                  go_wp2_with fail
                  refine wp_region_later (by kernel_rfl) (by kernel_rfl) ?_
                  repeat (go_big_quiet_step (first
                    | (go_at_call 25; rename_i q; exact later_call q (KR.out q))
                    | fail))
                  refine wpQuiet_nil ?_
                  intro q0
                  go_wp2_with fail
                  go_roundw
                  case rel => exact ⟨k + 1, by omega, by go_num, Lib.hid ⟨below_more HB7.out q0.hb, HN.out⟩⟩
                  case measure => simp [intOf]; omega
                | false =>
                  have HE : Hid (isM L = false) := Lib.hid (by rw [HRST.out, List.any_eq_true.2 ⟨k, List.mem_range.2 HKL.out, HM.out⟩]; rfl)
                  go_wp2_with fail
                  refine wp_region_later (by kernel_rfl) (by kernel_rfl) ?_
                  repeat (go_big_quiet_step (first
                    | (go_at_call 25; rename_i q; exact later_call q (KR.out q))
                    | fail))
                  refine wpQuiet_nil ?_
                  intro q0
                  go_wp2_with fail
                  go_ret
                  exact ⟨ret_bool (by rw [HE.out]), below_more HBG.out q0.hb⟩
              · have HE : Hid (isM L = true) := Lib.hid (by
                  rw [HRST.out, List.any_eq_false.2 (fun j hj => by rw [HR.out j (by have := List.mem_range.1 hj; have := HLEN.out; omega)]; decide)]
                  rfl)
                obtain rfl : k = m := by omega
                clear hlt
                go_wp2_with fail
                go_ret
                exact ⟨ret_bool (by rw [HE.out]), HBG.out⟩
end
end Go.Proofs.YtmdnmiiggkfnfaaDoor
