/- Contracts of the document's IsName; of the law's whole. -/
import Derived.Test.YtmdnmiiggkfnfaaDoorGlRef
set_option linter.unusedVariables false
set_option linter.unusedSimpArgs false
namespace Go.Proofs.YtmdnmiiggkfnfaaDoor
open Go.RowKit

theorem rfR_at {w : World} {A : Option Addr} {n : Nat} {xs : List (Nat × Nat)} (h : Rf flRn w A n xs) {j : Nat} (hj : j < n) :
    ∃ b off r m, A = some ⟨b, off, none⟩ ∧ xs[j]? = some (r, m) ∧ w.cell? ⟨b, off + j * 3, none⟩ = some (.int .i32 (r : Int)) ∧ w.cell? ⟨b, off + j * 3 + 1, none⟩ = some (.int .i64 (m : Int)) ∧ w.cell? ⟨b, off + j * 3 + 2, none⟩ = some (.bool (badR (r, m))) := by
  obtain ⟨b, off, ⟨r, m⟩, rfl, hx, hc⟩ := h.at_ hj
  exact ⟨b, off, r, m, rfl, hx, hc 0 _ rfl, hc 1 _ rfl, hc 2 _ rfl⟩
theorem drop_at {α : Type} {xs : List α} {j : Nat} {x : α} (h : xs[j]? = some x) : xs.drop j = x :: xs.drop (j + 1) := by
  obtain ⟨hl, rfl⟩ := List.getElem?_eq_some_iff.1 h
  exact List.drop_eq_getElem_cons hl
set_option maxRecDepth 20000 in
set_option maxHeartbeats 4000000 in
theorem RefIsName_calls (w : World) (hT : Tabs w) (s : ByteArray) (hs : s.size ≤ 4000000) :
    Calls Tryd.prog 20 #[.string s] w fun e w' => e = .returned (.bool (nameL (byt s))) ∧ Below w.heap.size w w' := by
  have HK : Hid (Calls Tryd.prog 35 #[.string s] w fun e w' => ∃ v, e = .returned v ∧ Ow flRn w' w.heap.size 70 v (rn (byt s)) ∧ Below w.heap.size w w') := Lib.hid (Runes_calls w hT s hs)
  have hle := Nat.le_trans (rn_len (byt s)) (Nat.le_of_eq (byt_len s))
  unfold nameL
  generalize rn (byt s) = l at *
  clear hT
  go_enter Tryd.func20, Tryd.ntmps20
  go_wp2_with fail
  refine HK.out.mono ?_
  rintro e w1 ⟨v, rfl, ho, hb1⟩
  obtain ⟨A, c, rfl, hA⟩ := ho.read (by decide)
  have HA := Lib.hid hA
  have HB1 := Lib.hid hb1
  clear ho hA hb1
  go_wp2_with fail
  go_loop [4] (fun i => ∃ k : Nat, k ≤ l.length ∧ i = .int .i64 k ∧ Hid (okN (k == 0) (l.drop k) = okN true l)) (fun i => l.length - (intOf i).toNat)
  case atStart => exact ⟨0, by omega, rfl, Lib.hid rfl⟩
  case round =>
    obtain ⟨k, hk, rfl, hr⟩ := hrel
    by_cases hlt : k < l.length
    · obtain ⟨b, off, r, m, rfl, hx, c0, c1, c2⟩ := rfR_at HA.out hlt
      have hr2 := hr.out
      rw [drop_at hx] at hr2
      have HR := Lib.hid hr2
      clear hr hr2 hx c1
      have KL := fun W => RefLetter_calls (r : Int) W
      cases hbad : badR (r, m) with
      | true =>
        rw [hbad] at c2
        have HF := Lib.hid (show nameR l = false by unfold nameR; rw [← HR.out, okN_bad hbad]; rfl)
        clear hbad
        go_wp2_with fail
        go_ret
        exact ⟨ret_bool (by rw [HF.out]), HB1.out⟩
      | false =>
        rw [hbad] at c2
        cases hlet : letB (r : Int) with
        | true =>
          rw [hlet] at KL
          have HQ := Lib.hid (HR.out.symm.trans (okN_let hbad hlet))
          clear hbad hlet
          go_wp2_with (go_at_call 36; refine (KL _).mono ?_; rintro e w4 ⟨rfl, rfl⟩)
          all_goals
            go_round
            case rel => exact ⟨k + 1, by omega, by go_num, Lib.hid (by rw [HQ.out, show (k + 1 == 0) = false by simp])⟩
            case measure => simp [intOf]; omega
        | false =>
          rw [hlet] at KL
          by_cases hdig : ¬ k = 0 ∧ (48 : Int) ≤ (r : Int) ∧ (r : Int) ≤ 57
          · obtain ⟨d0, d1, d2⟩ := hdig
            have d3 : ((k : Int) == 0) = false := by simp; omega
            have HQ : Hid (okN true l = okN false (l.drop (k + 1))) := Lib.hid (by
              have e0 := HR.out
              rw [show (k == 0) = false by simp; omega] at e0
              exact e0.symm.trans (okN_dig hbad (decide_eq_true ⟨d1, d2⟩)))
            clear hbad hlet
            go_wp2_with (go_at_call 36; refine (KL _).mono ?_; rintro e w4 ⟨rfl, rfl⟩)
            all_goals
              go_round
              case rel => exact ⟨k + 1, by omega, by go_num, Lib.hid (by rw [HQ.out, show (k + 1 == 0) = false by simp])⟩
              case measure => simp [intOf]; omega
          · have HF := Lib.hid (show nameR l = false by
              unfold nameR
              rw [← HR.out, okN_no hlet]
              · rfl
              · by_cases h0 : k = 0
                · exact .inl (by simp [h0])
                · exact .inr (decide_eq_false (fun h => hdig ⟨h0, h.1, h.2⟩)))
            clear hbad hlet
            by_cases d0 : k = 0
            · have d3 : ((k : Int) == 0) = true := by simp [d0]
              clear hdig d0
              go_wp2_with (go_at_call 36; refine (KL _).mono ?_; rintro e w4 ⟨rfl, rfl⟩)
              all_goals go_ret
              all_goals exact ⟨ret_bool (by rw [HF.out]), HB1.out⟩
            · have d3 : ((k : Int) == 0) = false := by simp; omega
              by_cases d1 : (r : Int) < 48
              · clear hdig d0
                go_wp2_with (go_at_call 36; refine (KL _).mono ?_; rintro e w4 ⟨rfl, rfl⟩)
                all_goals go_ret
                all_goals exact ⟨ret_bool (by rw [HF.out]), HB1.out⟩
              · have d2 : (57 : Int) < (r : Int) := by
                  rcases Int.lt_or_le 57 (r : Int) with h | h
                  · exact h
                  · exact absurd ⟨d0, by omega, h⟩ hdig
                clear hdig d0
                go_wp2_with (go_at_call 36; refine (KL _).mono ?_; rintro e w4 ⟨rfl, rfl⟩)
                all_goals go_ret
                all_goals exact ⟨ret_bool (by rw [HF.out]), HB1.out⟩
    · have hkn : k = l.length := by omega
      have he : l.drop k = [] := List.drop_eq_nil_of_le (by omega)
      have hr2 := hr.out
      rw [he] at hr2
      have HF := Lib.hid (show nameR l = decide (1 ≤ l.length ∧ l.length ≤ 8) by
        unfold nameR
        rw [← hr2]
        rfl)
      clear he hr2 hr hkn
      go_wp2_with fail
      all_goals go_ret
      all_goals exact ⟨ret_bool (by rw [HF.out, Bool.eq_iff_iff]; simp; omega), HB1.out⟩
/-- Has a text no wrong rune? -/
def wholeR (l : List (Nat × Nat)) : Bool := l.all fun x => !badR x
end Go.Proofs.YtmdnmiiggkfnfaaDoor
