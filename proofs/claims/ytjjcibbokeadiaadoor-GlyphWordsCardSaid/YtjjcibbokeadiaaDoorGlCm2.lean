/- Contracts: Cmp, the program's and the document's: the walks. -/
import Derived.Test.YtjjcibbokeadiaaDoorGlCmp
set_option linter.unusedVariables false
namespace Go.Proofs.YtjjcibbokeadiaaDoor
open Go.RowKit

theorem run_runes' (w : World) (s : ByteArray) (hs : s.size ≤ 1000000) : ∃ A c w1, (convert 9 24 (.string s)).run Tryd.prog w = .ok (.slice A (rn (byt s)).length c) w1 ∧ Rf flQ w1 A (rn (byt s)).length (rn (byt s)) ∧ Below w.heap.size w w1 := by
  obtain ⟨c, pad, h⟩ := run_runes w s hs
  have hle := Nat.le_trans (rn_len (byt s)) (Nat.le_of_eq (byt_len s))
  exact ⟨_, _, _, h, (rfQ_of (Blk.new w _ _ _) (by omega)).drew, below_drawn (below_new w _) 1⟩
theorem rfQ_at {w : World} {A : Option Addr} {n : Nat} {xs : List (Nat × Nat)} (h : Rf flQ w A n xs) {j : Nat} (hj : j < n) : ∃ b off r m, A = some ⟨b, off, none⟩ ∧ xs[j]? = some (r, m) ∧ w.cell? ⟨b, off + j, none⟩ = some (.int .i32 (r : Int)) := by
  obtain ⟨b, off, ⟨r, m⟩, rfl, hx, hc⟩ := h.at_ hj
  refine ⟨b, off, r, m, rfl, hx, ?_⟩
  have := hc 0 _ rfl
  simpa [flQ] using this
theorem cmpR_cons {x y : Nat × Nat} {a b : List (Nat × Nat)} : cmpR (x :: a) (y :: b) = if cmpI x.1 y.1 = 0 then cmpR a b else cmpI x.1 y.1 := by
  rw [cmpR]
  unfold cmpI
  by_cases h1 : x.1 < y.1
  · rw [if_pos h1, if_pos (show (x.1 : Int) < y.1 by omega), if_neg (by decide)]
  · rw [if_neg h1, if_neg (show ¬ (x.1 : Int) < y.1 by omega)]
    by_cases h2 : y.1 < x.1
    · rw [if_pos h2, if_pos (show (y.1 : Int) < x.1 by omega), if_neg (by decide)]
    · rw [if_neg h2, if_neg (show ¬ (y.1 : Int) < x.1 by omega), if_pos rfl]
set_option maxRecDepth 100000 in
set_option maxHeartbeats 4000000 in
theorem Cmp_calls (w : World) (s t : ByteArray) (hs : s.size ≤ 1000000) (ht : t.size ≤ 1000000) :
    Calls Tryd.prog 24 #[.string s, .string t] w fun e w' => e = .returned (.int .i64 (cmpL (byt s) (byt t))) ∧ Below w.heap.size w w' := by
  obtain ⟨A, c, w1, q1, hA, hb1⟩ := run_runes' w s hs
  obtain ⟨B, d, w2, q2, hB, hb2⟩ := run_runes' w1 t ht
  have hle := Nat.le_trans (rn_len (byt s)) (Nat.le_of_eq (byt_len s))
  have hlf := Nat.le_trans (rn_len (byt t)) (Nat.le_of_eq (byt_len t))
  have HA := Lib.hid (hA.stay hb2)
  have HB := Lib.hid hB
  have HW := Lib.hid (below_more hb1 hb2)
  unfold cmpL
  clear hA hB hb1 hb2
  generalize rn (byt s) = ra at *
  generalize rn (byt t) = rb at *
  have han : ra.length ≤ 1000000 := by omega
  have hbn : rb.length ≤ 1000000 := by omega
  clear hle hlf
  go_enter Tryd.func24, Tryd.ntmps24
  go_wp2_with fail
  clear q1 q2
  go_loop [16] (fun i => ∃ k : Nat, k ≤ ra.length ∧ k ≤ rb.length ∧ i = .int .i64 k ∧ Hid (cmpR (ra.drop k) (rb.drop k) = cmpR ra rb)) (fun i => ra.length - (intOf i).toNat)
  case atStart => exact ⟨0, by omega, by omega, rfl, Lib.hid rfl⟩
  case round =>
    obtain ⟨k, hk, hkb, rfl, hr⟩ := hrel
    by_cases hlt : k < ra.length
    · obtain ⟨b, off, r, m, rfl, hx, c0⟩ := rfQ_at HA.out hlt
      have hr2 := hr.out
      rw [drop_at hx] at hr2
      clear hx
      by_cases hlb : k < rb.length
      · obtain ⟨b', off', r', m', rfl, hy, d0⟩ := rfQ_at HB.out hlb
        rw [drop_at hy, cmpR_cons] at hr2
        clear hy hr
        have KC := Lib.hid (CmpR_calls (r : Int) (r' : Int) w2)
        dsimp only at hr2
        by_cases hz : cmpI (r : Int) (r' : Int) = 0
        · rw [if_pos hz] at hr2
          rw [hz] at KC
          have HR := Lib.hid hr2
          clear hr2 hz
          go_wp2_with (go_at_call 28; refine KC.out.mono ?_; rintro e w4 ⟨rfl, rfl⟩)
          go_round
          case rel => exact ⟨k + 1, by omega, by omega, by go_num, Lib.hid (by rw [HR.out])⟩
          case measure => simp [intOf]; omega
        · rw [if_neg hz] at hr2
          have hne : (cmpI (r : Int) (r' : Int) != 0) = true := by rw [bne_iff_ne]; exact hz
          generalize cmpI (r : Int) (r' : Int) = z at *
          have HR := Lib.hid hr2
          clear hr2 hz
          go_wp2_with (go_at_call 28; refine KC.out.mono ?_; rintro e w4 ⟨rfl, rfl⟩)
          go_ret
          exact ⟨ret_int (by rw [HR.out]), HW.out⟩
      · have hkm : k = rb.length := by omega
        have he : rb.drop k = [] := List.drop_eq_nil_of_le (by omega)
        rw [he] at hr2
        have HR := Lib.hid (show (1 : Int) = cmpR ra rb from hr2)
        clear hr2 he hkm hr
        go_wp2_with fail
        go_ret
        exact ⟨ret_int (by rw [← HR.out]), HW.out⟩
    · have hkn : k = ra.length := by omega
      have he : ra.drop k = [] := List.drop_eq_nil_of_le (by omega)
      have hr2 := hr.out
      rw [he, cmpR_nil_left, List.length_drop] at hr2
      have HR := Lib.hid (show cmpI (ra.length : Int) (rb.length : Int) = cmpR ra rb by
        rw [← hr2]
        unfold cmpI
        by_cases h : ra.length < rb.length
        · rw [if_pos (by omega), if_pos (by omega)]
        · rw [if_neg (by omega), if_neg (by omega), if_neg (by omega), if_neg (by omega)])
      clear he hr2 hr
      go_wp2_with (go_at_call 29; refine (CmpN_calls _ _ _).mono ?_; rintro e w4 ⟨rfl, rfl⟩)
      go_ret
      exact ⟨ret_int (by rw [HR.out]), HW.out⟩
set_option maxRecDepth 100000 in
set_option maxHeartbeats 4000000 in
theorem RefCmp_calls (w : World) (hT : Tabs w) (s t : ByteArray) (hs : s.size ≤ 1000000) (ht : t.size ≤ 1000000) :
    Calls Tryd.prog 25 #[.string s, .string t] w fun e w' => e = .returned (.int .i64 (cmpL (byt s) (byt t))) ∧ Below w.heap.size w w' := by
  have HK1 : Hid (∀ (W : World), Tabs W → Calls Tryd.prog 19 #[.string s] W fun e w' => ∃ v, e = .returned v ∧ Ow flR w' W.heap.size 47 v (rn (byt s)) ∧ Below W.heap.size W w') := Lib.hid (fun W h => Runes_calls W h s (by omega))
  have HK2 : Hid (∀ (W : World), Tabs W → Calls Tryd.prog 19 #[.string t] W fun e w' => ∃ v, e = .returned v ∧ Ow flR w' W.heap.size 47 v (rn (byt t)) ∧ Below W.heap.size W w') := Lib.hid (fun W h => Runes_calls W h t (by omega))
  have hle := Nat.le_trans (rn_len (byt s)) (Nat.le_of_eq (byt_len s))
  have hlf := Nat.le_trans (rn_len (byt t)) (Nat.le_of_eq (byt_len t))
  have HT := Lib.hid hT
  clear hT
  unfold cmpL
  generalize rn (byt s) = ra at *
  generalize rn (byt t) = rb at *
  have han : ra.length ≤ 1000000 := by omega
  have hbn : rb.length ≤ 1000000 := by omega
  clear hle hlf
  go_enter Tryd.func25, Tryd.ntmps25
  go_wp2_with fail
  refine (HK1.out w HT.out).mono ?_
  rintro e w1 ⟨v, rfl, ho, hb1⟩
  obtain ⟨A, c, rfl, hA⟩ := ho.read (by decide)
  have HA0 := Lib.hid hA
  have HB1 := Lib.hid hb1
  clear ho hA hb1
  go_wp2_with fail
  refine (HK2.out w1 (HT.out.stay HB1.out)).mono ?_
  rintro e w2 ⟨v, rfl, ho, hb2⟩
  obtain ⟨B, d, rfl, hB⟩ := ho.read (by decide)
  have HA := Lib.hid (HA0.out.stay hb2)
  have HB := Lib.hid hB
  have HW := Lib.hid (below_more HB1.out hb2)
  clear ho hB hb2 HA0 HK1 HK2
  go_wp2_with fail
  go_loopw [7] (fun i wr => ∃ k : Nat, k ≤ ra.length ∧ k ≤ rb.length ∧ i = .int .i64 k ∧ Hid (cmpR (ra.drop k) (rb.drop k) = cmpR ra rb) ∧ Hid (Below w2.heap.size w2 wr)) (fun i _ => ra.length - (intOf i).toNat)
  case atStart => exact ⟨0, by omega, by omega, rfl, Lib.hid rfl, Lib.hid (Below.refl _ _)⟩
  case round =>
    obtain ⟨k, hk, hkb, rfl, hr, hbr⟩ := hrel
    by_cases hlt : k < ra.length
    · by_cases hlb : k < rb.length
      · obtain ⟨b, off, r, m, rfl, hx, c0, _, _⟩ := rfR_at HA.out hlt
        obtain ⟨b', off', r', m', rfl, hy, d0, _, _⟩ := rfR_at HB.out hlb
        have hr2 := hr.out
        rw [drop_at hx, drop_at hy, cmpR] at hr2
        have c0 := cell_stay hbr.out c0
        have d0 := cell_stay hbr.out d0
        have HBR := hbr
        clear hx hy hr hbr
        dsimp only at hr2
        have hki : (k : Int) < (ra.length : Int) := by omega
        have hkj : (k : Int) < (rb.length : Int) := by omega
        by_cases h1 : r < r'
        · rw [if_pos h1] at hr2
          have h1' : (r : Int) < (r' : Int) := by omega
          have HR := Lib.hid hr2
          clear hr2 h1
          go_wp2_with fail
          go_quiet (fail)
          go_wp2_with fail
          go_ret
          exact ⟨ret_int (by rw [← HR.out]), HW.out.trans (below_drawn (HBR.out.mono HW.out.size) _)⟩
        · rw [if_neg h1] at hr2
          have h1' : ¬ (r : Int) < (r' : Int) := by omega
          by_cases h2 : r' < r
          · rw [if_pos h2] at hr2
            have h2' : (r' : Int) < (r : Int) := by omega
            have HR := Lib.hid hr2
            clear hr2 h1 h2
            go_wp2_with fail
            go_quiet (fail)
            go_wp2_with fail
            go_quiet (fail)
            go_wp2_with fail
            go_ret
            exact ⟨ret_int (by rw [← HR.out]), HW.out.trans (below_drawn (below_drawn (HBR.out.mono HW.out.size) _) _)⟩
          · rw [if_neg h2] at hr2
            have h2' : ¬ (r' : Int) < (r : Int) := by omega
            have HR := Lib.hid hr2
            clear hr2 h1 h2
            go_wp2_with fail
            go_quiet (fail)
            go_wp2_with fail
            go_quiet (fail)
            go_wp2_with fail
            go_roundw
            case rel => exact ⟨k + 1, by omega, by omega, by go_num, Lib.hid (by rw [HR.out]), Lib.hid (below_drawn HBR.out _)⟩
            case measure => simp [intOf]; omega
      · have hkm : k = rb.length := by omega
        have he : rb.drop k = [] := List.drop_eq_nil_of_le (by omega)
        have hr2 := hr.out
        rw [he, cmpR_nil_right, List.length_drop] at hr2
        have HR := Lib.hid (show (1 : Int) = cmpR ra rb by
          rw [← hr2]
          unfold cmpI
          rw [if_neg (by omega), if_pos (by omega)])
        have hgt : (rb.length : Int) < (ra.length : Int) := by omega
        have hng : ¬ (ra.length : Int) < (rb.length : Int) := by omega
        clear hr2 he hr
        go_wp2_with fail
        all_goals go_ret
        all_goals exact ⟨ret_int (by rw [← HR.out]), HW.out.trans (hbr.out.mono HW.out.size)⟩
    · have hkn : k = ra.length := by omega
      have he : ra.drop k = [] := List.drop_eq_nil_of_le (by omega)
      have hr2 := hr.out
      rw [he, cmpR_nil_left, List.length_drop] at hr2
      by_cases h : ra.length < rb.length
      · have HR := Lib.hid (show (-1 : Int) = cmpR ra rb by
          rw [← hr2]
          unfold cmpI
          rw [if_pos (by omega)])
        have hgt : (ra.length : Int) < (rb.length : Int) := by omega
        clear he hr2 hr
        go_wp2_with fail
        all_goals go_ret
        all_goals exact ⟨ret_int (by rw [← HR.out]), HW.out.trans (hbr.out.mono HW.out.size)⟩
      · have HR := Lib.hid (show (0 : Int) = cmpR ra rb by
          rw [← hr2]
          unfold cmpI
          rw [if_neg (by omega), if_neg (by omega)])
        have hgt : ¬ (ra.length : Int) < (rb.length : Int) := by omega
        have hng : ¬ (rb.length : Int) < (ra.length : Int) := by omega
        clear he hr2 hr
        go_wp2_with fail
        all_goals go_ret
        all_goals exact ⟨ret_int (by rw [← HR.out]), HW.out.trans (hbr.out.mono HW.out.size)⟩
end Go.Proofs.YtjjcibbokeadiaaDoor
