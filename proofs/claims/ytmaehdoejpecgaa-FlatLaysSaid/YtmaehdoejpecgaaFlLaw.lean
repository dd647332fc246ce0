/- Walks of the laws FlatTells, FlatBack. -/
import Derived.Test.YtmaehdoejpecgaaFlTake
set_option linter.unusedVariables false
namespace Go.Proofs.Ytmaehdoejpecgaa
open Go.ChangeShapes Go.WideShapes Go.ChangeAt Go.RowKit

theorem eqv_rs (x y : Rs) : Eqv Try.prog 2 67 (.agg #[.int .i64 x.m, .int .i64 x.t, .int .i64 x.g, .bool x.s]) (.agg #[.int .i64 y.m, .int .i64 y.t, .int .i64 y.g, .bool y.s]) (decide (x = y)) := by
  have h := eqv_struct (P := Try.prog) (t := 67) (xs := #[.int .i64 x.m, .int .i64 x.t, .int .i64 x.g, .bool x.s]) (ys := #[.int .i64 y.m, .int .i64 y.t, .int .i64 y.g, .bool y.s]) Try.underlying67 (by kernel_rfl)
    (eqf_cons (by decide) (fun _ => by kernel_rfl) (fun _ => by kernel_rfl) (eqv_int (q' := .i64) Try.underlying3 x.m y.m) (eqf_cons (by decide) (fun _ => by kernel_rfl) (fun _ => by kernel_rfl) (eqv_int (q' := .i64) Try.underlying3 x.t y.t)
      (eqf_cons (by decide) (fun _ => by kernel_rfl) (fun _ => by kernel_rfl) (eqv_int (q' := .i64) Try.underlying3 x.g y.g) (eqf_cons (by decide) (fun _ => by kernel_rfl) (fun _ => by kernel_rfl) (eqv_bool Try.underlying4 x.s y.s) eqf_nil))))
  have e : (x.m == y.m && (x.t == y.t && (x.g == y.g && (x.s == y.s && true)))) = decide (x = y) := by
    obtain ⟨a, b, c, d⟩ := x
    obtain ⟨a', b', c', d'⟩ := y
    rw [Bool.eq_iff_iff]
    simp
  rw [e] at h
  exact h
/-- Owned is read; the capacity. -/
theorem Ow.readc {α : Type} {f : Fl α} {w : World} {base : Nat} {e : TypeId} {v : Value} {xs : List α} (h : Ow f w base e v xs) (hs : 0 < f.sz) : ∃ A c, v = .slice A xs.length c ∧ Rf f w A xs.length xs ∧ xs.length ≤ c ∧ c ≤ 9223372036854775807 := by
  obtain ⟨A, c, e, hR⟩ := h.read hs
  refine ⟨A, c, e, hR, ?_⟩
  subst e
  rcases h.2 with ⟨e, h0⟩ | ⟨g, cap, cur, e, _, _, h1, h2, _⟩
  · injection e with _ e1 e2; omega
  · injection e with _ _ e2; simp only [maxLen] at h2; omega
theorem takeN_nums : ∀ xs : List Rs, takeN (numsOf xs) = some xs
  | [] => rfl
  | x :: r => by
    have e : numsOf (x :: r) = x.m :: x.t :: x.g :: numB x.s :: numsOf r := rfl
    have hb : numB x.s = 0 ∨ numB x.s = 1 := by cases x.s <;> simp [numB]
    have hd : (numB x.s == 1) = x.s := by cases x.s <;> rfl
    rw [e, takeN, if_pos hb, takeN_nums r, hd]
    rfl
theorem nums_takeN : ∀ (n : List Int) (ys : List Rs), takeN n = some ys → numsOf ys = n
  | [], ys, h => by injection h with h; subst h; rfl
  | a :: b :: c :: d :: r, ys, h => by
    rw [takeN] at h
    split at h
    · rename_i hd
      obtain ⟨l, hl, rfl⟩ := Option.map_eq_some_iff.1 h
      have ih := nums_takeN r l hl
      have hb : numB (d == 1) = d := by rcases hd with rfl | rfl <;> rfl
      show a :: b :: c :: numB (d == 1) :: numsOf l = _
      rw [ih, hb]
    · cases h
  | [_], _, h => by simp [takeN] at h
  | [_, _], _, h => by simp [takeN] at h
  | [_, _, _], _, h => by simp [takeN] at h

set_option maxHeartbeats 1000000 in
theorem sameR_calls (A B : Option Addr) (n m c d : Nat) (xs ys : List Rs) (w : World) (hA : Rf flR w A n xs) (hB : Rf flR w B m ys) :
    Calls Try.prog 23 #[.slice A n c, .slice B m d] w fun e w' => e = .returned (.bool (decide (xs = ys))) ∧ Below w.heap.size w w' := by
  have h1 := hA.1
  have h2 := hB.1
  have hn := hA.2.1
  by_cases hne : n = m
  · have hb : ((n : Int) != (m : Int)) = false := by simp [hne]
    have HN := Lib.hid hne
    have H1 := Lib.hid h1
    have H2 := Lib.hid h2
    clear hne h1 h2
    go_enter Try.func23, Try.ntmps23
    go_wp2_with fail
    go_loopw [5] (fun i wr => ∃ k : Nat, k ≤ n ∧ i = .int .i64 k ∧ Hid (xs.take k = ys.take k) ∧ Below w.heap.size w wr) (fun i _ => n - (intOf i).toNat)
    case atStart => exact ⟨0, by omega, rfl, Lib.hid rfl, Below.refl _ _⟩
    case round =>
      obtain ⟨k, hk, rfl, hr, hbr⟩ := hrel
      by_cases hlt : k < n
      · obtain ⟨ba, oa, x, rfl, hx, ca0, ca1, ca2, ca3⟩ := rfR_at hA hlt
        obtain ⟨bb, ob, y, rfl, hy, cb0, cb1, cb2, cb3⟩ := rfR_at hB (j := k) (by have := HN.out; omega)
        have ca := cell_keep hbr (cell_lt ca0) ca0
        have cb := cell_keep hbr (cell_lt cb0) cb0
        have ca' := cell_keep hbr (cell_lt ca1) ca1
        have cb' := cell_keep hbr (cell_lt cb1) cb1
        have ca2' := cell_keep hbr (cell_lt ca2) ca2
        have cb2' := cell_keep hbr (cell_lt cb2) cb2
        have ca3' := cell_keep hbr (cell_lt ca3) ca3
        have cb3' := cell_keep hbr (cell_lt cb3) cb3
        have HX := Lib.hid hx
        have HY := Lib.hid hy
        clear ca0 cb0 ca1 cb1 ca2 cb2 ca3 cb3 hx hy
        have hkm : (k : Int) < m := by have := HN.out; omega
        have hq := run_neq_of (eqv_rs x y) (by omega)
        by_cases hxy : x = y
        · rw [decide_eq_true hxy] at hq
          have HXY := Lib.hid hxy
          clear hxy
          go_wp2_with fail
          go_quiet (fail)
          go_wp2_with fail
          go_roundw
          case rel => exact ⟨k + 1, by omega, by go_num, Lib.hid (take_eq_step HX.out HY.out hr.out HXY.out), below_drawn hbr _⟩
          case measure => simp [intOf]; omega
        · rw [decide_eq_false hxy] at hq
          have HXY := Lib.hid hxy
          clear hxy
          go_wp2_with fail
          go_quiet (fail)
          go_wp2_with fail
          go_ret
          exact ⟨by rw [decide_eq_false (ne_of_at HX.out HY.out HXY.out)]; rfl, below_drawn hbr _⟩
      · have hkn : k = n := by omega
        have hfin : xs = ys := by
          have := hr.out
          rw [hkn, List.take_of_length_le (by have := H1.out; omega), List.take_of_length_le (by have := H2.out; have := HN.out; omega)] at this
          exact this
        have HF := Lib.hid hfin
        clear hkn hfin
        go_wp2_with fail
        go_ret
        exact ⟨by rw [decide_eq_true HF.out]; rfl, hbr⟩
  · have hb : ((n : Int) != (m : Int)) = true := by simp; omega
    have hll : ¬ xs = ys := by rintro rfl; omega
    have H3 := Lib.hid hll
    clear h1 h2 hll
    go_enter Try.func23, Try.ntmps23
    go_wp2_with fail
    go_ret
    exact ⟨by rw [decide_eq_false H3.out]; rfl, Below.refl _ _⟩

/-- What Take tells: the rows, or none. -/
def rowsOf (n : List Int) : List Rs := (takeN n).getD []
theorem take_post {w : World} {n : List Int} {e : Ending} {w' : World} (h : TakePost w n e w') :
    ∃ A c, e = .returned (.tuple #[.slice A (rowsOf n).length c, .bool (takeN n).isSome]) ∧ Rf flR w' A (rowsOf n).length (rowsOf n) ∧ Below w.heap.size w w' := by
  rcases h with ⟨ys, v, h1, rfl, h2, h3⟩ | ⟨h1, rfl, h3⟩
  · obtain ⟨A, c, rfl, hR⟩ := h2.read (by decide)
    have e : rowsOf n = ys := by unfold rowsOf; rw [h1]; rfl
    rw [e, h1]
    exact ⟨A, c, rfl, hR, h3⟩
  · have e : rowsOf n = [] := by unfold rowsOf; rw [h1]; rfl
    rw [e, h1]
    exact ⟨none, 0, rfl, Rf.nil_ _ _ _, h3⟩

set_option maxHeartbeats 2000000 in
theorem tells9_calls (A B : Option Addr) (n m c d : Nat) (xs : List Rs) (ns : List Int) (w : World) (hA : Rf flR w A n xs) (hB : Rf flI w B m ns) (hmd : m ≤ d) (hd : d ≤ 9223372036854775807) :
    Calls Try.prog 8 #[.slice A n c, .slice B m d] w fun e w' => e = .returned (.bool true) ∧ Below w.heap.size w w' := by
  have hn0 := hA.2.1
  have hm0 := hB.2.1
  by_cases h1 : (50 : Int) < n
  · go_enter Try.func8, Try.ntmps8
    go_wp2
    go_ret
    exact ⟨rfl, Below.refl _ _⟩
  by_cases h2 : (200 : Int) < m
  · go_enter Try.func8, Try.ntmps8
    go_wp2
    go_ret
    exact ⟨rfl, Below.refl _ _⟩
  have HA := Lib.hid hA
  have HB := Lib.hid hB
  clear hA hB
  go_enter Try.func8, Try.ntmps8
  go_wp2_with fail
  refine (Take_calls B m d ns w HB.out (by omega) hmd hd).mono ?_
  intro e w1 h1
  obtain ⟨A1, c1, rfl, R1, b1⟩ := take_post h1
  clear h1
  generalize hI : (takeN ns).isSome = isN
  have HI := Lib.hid hI
  clear hI
  go_wp2_with fail
  refine (RefTake_calls B m d ns w1 (HB.out.stay b1) (by omega)).mono ?_
  intro e w2 h2
  obtain ⟨A2, c2, rfl, R2, b2⟩ := take_post h2
  clear h2
  rw [HI.out]
  have Q := Lib.hid (And.intro (R1.stay b2) (And.intro R2 (below_more b1 b2)))
  clear R1 R2 b1 b2
  go_wp2_with fail
  refine (Of_calls A n c xs w2 (HA.out.stay Q.out.2.2) (by omega)).mono ?_
  rintro e w3 ⟨v3, rfl, o3, b3⟩
  obtain ⟨A3, c3, rfl, R3⟩ := o3.read (by decide)
  have b03 := below_more Q.out.2.2 b3
  have Q3 := Lib.hid (And.intro (Q.out.1.stay b3) (And.intro (Q.out.2.1.stay b3) (And.intro R3 b03)))
  clear o3 R3 b3 b03 Q
  go_wp2_with fail
  refine (RefOf_calls A n c xs w3 (HA.out.stay Q3.out.2.2.2) (by omega)).mono ?_
  rintro e w4 ⟨v4, rfl, o4, b4⟩
  obtain ⟨A4, c4, rfl, R4⟩ := o4.read (by decide)
  have Q4 := Lib.hid (And.intro (Q3.out.1.stay b4) (And.intro (Q3.out.2.1.stay b4) (And.intro (Q3.out.2.2.1.stay b4) (And.intro R4 (below_more Q3.out.2.2.2 b4)))))
  clear o4 R4 b4 Q3
  go_wp2_with fail
  refine (Ints_calls A3 A4 _ _ c3 c4 _ _ w4 Q4.out.2.2.1 Q4.out.2.2.2.1).mono ?_
  rintro e w5 ⟨rfl, b5⟩
  rw [show decide (numsOf xs = numsOf xs) = true from decide_eq_true rfl]
  have Q5 := Lib.hid (And.intro (Q4.out.1.stay b5) (And.intro (Q4.out.2.1.stay b5) (below_more Q4.out.2.2.2.2 b5)))
  clear b5 Q4
  go_wp2_with fail
  refine (sameR_calls A1 A2 _ _ c1 c2 _ _ w5 Q5.out.1 Q5.out.2.1).mono ?_
  rintro e w6 ⟨rfl, b6⟩
  rw [show decide (rowsOf ns = rowsOf ns) = true from decide_eq_true rfl]
  have Q6 := Lib.hid (below_more Q5.out.2.2 b6)
  clear b6 Q5
  go_wp2_with fail
  refine (known_calls _).mono ?_
  rintro e w7 ⟨rfl, b7⟩
  go_wp2_with fail
  go_ret
  exact ⟨rfl, below_more Q6.out b7⟩

set_option maxHeartbeats 2000000 in
theorem back_calls (A B : Option Addr) (n m c d : Nat) (xs : List Rs) (ns : List Int) (w : World) (hA : Rf flR w A n xs) (hB : Rf flI w B m ns) (hmd : m ≤ d) (hd : d ≤ 9223372036854775807) :
    Calls Try.prog 9 #[.slice A n c, .slice B m d] w fun e w' => e = .returned (.bool true) ∧ Below w.heap.size w w' := by
  have hn0 := hA.2.1
  have hm0 := hB.2.1
  by_cases h1 : (50 : Int) < n
  · go_enter Try.func9, Try.ntmps9
    go_wp2
    go_ret
    exact ⟨rfl, Below.refl _ _⟩
  by_cases h2 : (200 : Int) < m
  · go_enter Try.func9, Try.ntmps9
    go_wp2
    go_ret
    exact ⟨rfl, Below.refl _ _⟩
  have hxl := hA.1
  have HA := Lib.hid hA
  have HB := Lib.hid hB
  have hnl : (numsOf xs).length ≤ 1000000 := by rw [numsOf_len]; omega
  have HNL := Lib.hid hnl
  have HXL := Lib.hid hxl
  clear hA hB hnl hxl
  go_enter Try.func9, Try.ntmps9
  go_wp2_with fail
  refine (Of_calls A n c xs w HA.out (by omega)).mono ?_
  rintro e w1 ⟨v1, rfl, o1, b1⟩
  obtain ⟨A1, c1, rfl, R1, hc1, hc2⟩ := o1.readc (by decide)
  have HR1 := Lib.hid R1
  have Hb1 := Lib.hid b1
  have HC := Lib.hid (And.intro hc1 hc2)
  clear o1 R1 b1 hc1 hc2
  go_wp2_with fail
  refine (Take_calls A1 _ c1 (numsOf xs) w1 HR1.out HNL.out HC.out.1 HC.out.2).mono ?_
  intro e w2 h2
  obtain ⟨A2, c2, rfl, R2, b2⟩ := take_post h2
  have er : rowsOf (numsOf xs) = xs := by unfold rowsOf; rw [takeN_nums]; rfl
  rw [er] at R2 ⊢
  rw [takeN_nums, Option.isSome_some]
  have Q2 := Lib.hid (And.intro R2 (below_more Hb1.out b2))
  clear R2 b2 er h2
  go_wp2_with fail
  refine (sameR_calls A2 A _ n c2 c xs xs w2 Q2.out.1 (HA.out.stay Q2.out.2)).mono ?_
  rintro e w3 ⟨rfl, b3⟩
  rw [show decide (xs = xs) = true from decide_eq_true rfl]
  have Q3 := Lib.hid (below_more Q2.out.2 b3)
  clear b3 Q2
  go_wp2_with fail
  refine (Take_calls B m d ns w3 (HB.out.stay Q3.out) (by omega) hmd hd).mono ?_
  intro e w4 h4
  obtain ⟨A4, c4, rfl, R4, b4⟩ := take_post h4
  have Q4 := Lib.hid (And.intro R4 (below_more Q3.out b4))
  clear R4 b4 h4 Q3
  cases hI : takeN ns with
  | none =>
    rw [Option.isSome_none]
    clear hI
    go_wp2_with fail
    refine (known_calls _).mono ?_
    rintro e w7 ⟨rfl, b7⟩
    go_wp2_with fail
    go_ret
    exact ⟨rfl, below_more Q4.out.2 b7⟩
  | some ys =>
    rw [Option.isSome_some]
    have hy : rowsOf ns = ys := by unfold rowsOf; rw [hI]; rfl
    have hnum := nums_takeN _ _ hI
    have hlen := take_len _ _ hI
    rw [hy] at Q4 ⊢
    have HNU := Lib.hid hnum
    have HLE := Lib.hid hlen
    clear hI hy hnum hlen
    have hyl : ys.length ≤ 1000000 := by have := HLE.out; have := HB.out.1; omega
    have HYL := Lib.hid hyl
    clear hyl
    go_wp2_with fail
    refine (Of_calls A4 _ c4 ys w4 Q4.out.1 HYL.out).mono ?_
    rintro e w5 ⟨v5, rfl, o5, b5⟩
    rw [HNU.out] at o5
    obtain ⟨A5, c5, rfl, R5⟩ := o5.read (by decide)
    have Q5 := Lib.hid (And.intro R5 (below_more Q4.out.2 b5))
    clear o5 R5 b5 Q4
    go_wp2_with fail
    refine (Ints_calls A5 B _ m c5 d ns ns w5 Q5.out.1 (HB.out.stay Q5.out.2)).mono ?_
    rintro e w6 ⟨rfl, b6⟩
    rw [show decide (ns = ns) = true from decide_eq_true rfl]
    have Q6 := Lib.hid (below_more Q5.out.2 b6)
    clear b6 Q5
    go_wp2_with fail
    refine (known_calls _).mono ?_
    rintro e w7 ⟨rfl, b7⟩
    go_wp2_with fail
    go_ret
    exact ⟨rfl, below_more Q6.out b7⟩
end Go.Proofs.Ytmaehdoejpecgaa
