/- Walk of GlyphNames. -/
import Derived.Test.YtjjcibbokeadiaaDoorGlWrg
set_option linter.unusedVariables false
namespace Go.Proofs.YtjjcibbokeadiaaDoor
open Go.RowKit

theorem nam_rn {S : ByteArray} {n r : Nat} (h : byt S = (List.replicate n (encN r)).flatten) (hr : okR r) : rn (byt S) = List.replicate n (r, (encN r).length) := by
  have := rn_rep hr [] n
  rw [List.append_nil, rn_nil, List.append_nil] at this
  rw [h, this]
theorem nam_0 {S : ByteArray} {n r : Nat} (h : byt S = (List.replicate n (encN r)).flatten) (hr : okR r) (hl : letB (r : Int) = true) : nameL (byt S) = decide (1 ≤ n ∧ n ≤ 8) := by
  unfold nameL nameR
  have e := okN_rep (x := (r, (encN r).length)) bad_enc hl true [] n
  rw [List.append_nil] at e
  rw [nam_rn h hr, e, List.length_replicate]
  rfl
theorem nam_1 {S : ByteArray} {n r : Nat} (h : byt S = (List.replicate n (encN r)).flatten) (hr : okR r) (hl : letB (r : Int) = true) : nameL (byt (S ++ ⟨#[49]⟩)) = decide (1 ≤ n ∧ n < 8) := by
  unfold nameL nameR
  rw [byt_app, show byt ⟨#[49]⟩ = [49] from rfl, rn_plain _ (by omega), nam_rn h hr, okN_rep bad_enc hl]
  rw [Bool.eq_iff_iff]
  by_cases h0 : n = 0
  · subst h0
    simp [okN, letB]
  · have : (true && n == 0) = false := by simp; omega
    rw [this]
    simp [okN, letB, digB, badR]
    omega
theorem nam_2 (S : ByteArray) : nameL (byt (⟨#[49]⟩ ++ S)) = false := by
  unfold nameL nameR
  rw [byt_app, show byt ⟨#[49]⟩ = [49] from rfl, List.singleton_append, rn_head (by omega)]
  simp [okN, letB]
theorem nam_3 {S : ByteArray} {n r : Nat} (h : byt S = (List.replicate n (encN r)).flatten) (hr : okR r) (hl : letB (r : Int) = true) : nameL (byt (S ++ ⟨#[32]⟩)) = false := by
  unfold nameL nameR
  rw [byt_app, show byt ⟨#[32]⟩ = [32] from rfl, rn_plain _ (by omega), nam_rn h hr, okN_rep bad_enc hl]
  simp [okN, letB, digB]
set_option maxRecDepth 100000 in
set_option maxHeartbeats 8000000 in
theorem names_end (n : Nat) (hn : n ≤ 20) (w : World) (hT : Tabs w) (S : ByteArray) (r : Nat) (h : byt S = (List.replicate n (encN r)).flatten) (hr : okR r) (hl : letB (r : Int) = true) (hz : S.size ≤ 40) (b1 b2 : Bool) (e1 : decide (1 ≤ n ∧ n ≤ 8) = b1) (e2 : decide (1 ≤ n ∧ n < 8) = b2) :
    (Calls Tryd.prog 16 #[.string S] w fun e w' => e = .returned (.bool b1) ∧ Below w.heap.size w w') ∧
    (∀ W, Tabs W → Calls Tryd.prog 16 #[.string (S ++ ⟨#[49]⟩)] W fun e w' => e = .returned (.bool b2) ∧ Below W.heap.size W w') ∧
    (∀ W, Tabs W → Calls Tryd.prog 16 #[.string (⟨#[49]⟩ ++ S)] W fun e w' => e = .returned (.bool false) ∧ Below W.heap.size W w') ∧
    (∀ W, Tabs W → Calls Tryd.prog 16 #[.string (S ++ ⟨#[32]⟩)] W fun e w' => e = .returned (.bool false) ∧ Below W.heap.size W w') := by
  have z : ∀ c : UInt8, (S ++ ⟨#[c]⟩).size = S.size + 1 ∧ ((⟨#[c]⟩ : ByteArray) ++ S).size = 1 + S.size := fun c => ⟨by rw [ByteArray.size_append]; rfl, by rw [ByteArray.size_append]; rfl⟩
  refine ⟨?_, fun W hW => ?_, fun W hW => ?_, fun W hW => ?_⟩
  · have := IsName_calls w hT S (by omega)
    rw [nam_0 h hr hl, e1] at this
    exact this
  · have := IsName_calls W hW (S ++ ⟨#[49]⟩) (by have := (z 49).1; omega)
    rw [nam_1 h hr hl, e2] at this
    exact this
  · have := IsName_calls W hW (⟨#[49]⟩ ++ S) (by have := (z 49).2; omega)
    rw [nam_2 S] at this
    exact this
  · have := IsName_calls W hW (S ++ ⟨#[32]⟩) (by have := (z 32).1; omega)
    rw [nam_3 h hr hl] at this
    exact this
theorem nam_bools (n : Nat) : ∃ b1 b2, decide (1 ≤ n ∧ n ≤ 8) = b1 ∧ decide (1 ≤ n ∧ n < 8) = b2 ∧
    ((b1 = false ∧ b2 = false ∧ ¬ (1 : Int) ≤ n) ∨ (b1 = true ∧ b2 = true ∧ (1 : Int) ≤ n ∧ (n : Int) ≤ 8 ∧ (n : Int) < 8) ∨ (b1 = true ∧ b2 = false ∧ (1 : Int) ≤ n ∧ (n : Int) ≤ 8 ∧ ¬ (n : Int) < 8) ∨ (b1 = false ∧ b2 = false ∧ (1 : Int) ≤ n ∧ ¬ (n : Int) ≤ 8 ∧ ¬ (n : Int) < 8)) := by
  refine ⟨_, _, rfl, rfl, ?_⟩
  simp only [decide_eq_true_eq, decide_eq_false_iff_not]
  omega
set_option maxRecDepth 100000 in
set_option maxHeartbeats 8000000 in
theorem names_calls (n : Int) (wide : Bool) (w : World) (hT : Tabs w) :
    Calls Tryd.prog 6 #[.int .i64 n, .bool wide] w fun e w' => e = .returned (.bool true) ∧ Below w.heap.size w w' := by
  have HT := Lib.hid hT
  clear hT
  by_cases h1 : n < 0
  · go_enter Tryd.func6, Tryd.ntmps6
    go_wp2_with fail
    go_ret
    exact ⟨rfl, Below.refl _ _⟩
  by_cases h2 : (20 : Int) < n
  · go_enter Tryd.func6, Tryd.ntmps6
    go_wp2_with fail
    go_ret
    exact ⟨rfl, Below.refl _ _⟩
  obtain ⟨n, rfl⟩ := Int.eq_ofNat_of_zero_le (show 0 ≤ n by omega)
  obtain ⟨r, hr, hl, hwd⟩ : ∃ r, okR r ∧ letB (r : Int) = true ∧ (encN r) = (if wide then [201, 143] else [122]) := by
    cases wide
    · exact ⟨122, .inl (by omega), by decide, by decide⟩
    · exact ⟨591, .inl (by omega), by decide, by decide⟩
  have HR := Lib.hid (And.intro hr (And.intro hl hwd))
  clear hr hl hwd
  go_enter Tryd.func6, Tryd.ntmps6
  go_wp2_with fail
  go_loop [5, 6] (fun s i => ∃ (k : Nat) (S : ByteArray), k ≤ n ∧ s = .string S ∧ i = .int .i64 k ∧ Hid (byt S = (List.replicate k (encN r)).flatten) ∧ S.size ≤ 2 * k) (fun _ i => n - (intOf i).toNat)
  case atStart => exact ⟨0, _, by omega, rfl, rfl, Lib.hid rfl, by decide⟩
  case round =>
    obtain ⟨k, S, hk, rfl, rfl, hS, hz⟩ := hrel
    have hS8 : (S.size : Int) ≤ 8388608 := by omega
    by_cases hlt : k < n
    · cases wide with
      | true =>
        go_wp2_with fail
        go_round
        case rel => exact ⟨k + 1, S ++ ⟨#[201, 143]⟩, by omega, rfl, by go_num, Lib.hid (by rw [byt_app, hS.out, rep_snoc, HR.out.2.2]; rfl), by rw [ByteArray.size_append]; show S.size + 2 ≤ _; omega⟩
        case measure => simp [intOf]; omega
      | false =>
        go_wp2_with fail
        go_round
        case rel => exact ⟨k + 1, S ++ ⟨#[122]⟩, by omega, rfl, by go_num, Lib.hid (by rw [byt_app, hS.out, rep_snoc, HR.out.2.2]; rfl), by rw [ByteArray.size_append]; show S.size + 1 ≤ _; omega⟩
        case measure => simp [intOf]; omega
    · obtain rfl : k = n := by omega
      obtain ⟨b1, b2, q1, q2, hb⟩ := nam_bools k
      have K := Lib.hid (names_end k (by omega) w HT.out S r hS.out HR.out.1 HR.out.2.1 (by omega) b1 b2 q1 q2)
      clear q1 q2 hlt
      rcases hb with ⟨rfl, rfl, g1⟩ | ⟨rfl, rfl, g1, g2, g3⟩ | ⟨rfl, rfl, g1, g2, g3⟩ | ⟨rfl, rfl, g1, g2, g3⟩
      all_goals
        go_wp2_with fail
        refine K.out.1.mono ?_
        rintro e w1 ⟨rfl, hb1⟩
        have HB1 := Lib.hid hb1
        clear hb1
        go_wp2_with fail
        refine (K.out.2.1 w1 (HT.out.stay HB1.out)).mono ?_
        rintro e w2 ⟨rfl, hb2⟩
        have HB2 := Lib.hid (below_more HB1.out hb2)
        clear hb2
        go_wp2_with fail
        refine (K.out.2.2.1 w2 (HT.out.stay HB2.out)).mono ?_
        rintro e w3 ⟨rfl, hb3⟩
        have HB3 := Lib.hid (below_more HB2.out hb3)
        clear hb3
        go_wp2_with fail
        refine (K.out.2.2.2 w3 (HT.out.stay HB3.out)).mono ?_
        rintro e w4 ⟨rfl, hb4⟩
        have HB4 := Lib.hid (below_more HB3.out hb4)
        clear hb4
        go_wp2_with fail
        refine (known_calls _ (HT.out.stay HB4.out)).mono ?_
        rintro e w5 ⟨rfl, hb5⟩
        go_wp2_with fail
        go_ret
        refine ⟨ret_bool ?_, below_more HB4.out hb5⟩
        first
          | rfl
          | (simp; omega)
end Go.Proofs.YtjjcibbokeadiaaDoor
