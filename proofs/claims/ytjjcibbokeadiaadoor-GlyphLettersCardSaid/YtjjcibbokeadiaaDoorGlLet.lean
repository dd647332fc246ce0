/- Walk of GlyphLetters. -/
import Derived.Test.YtjjcibbokeadiaaDoorGlNam
import Derived.Laws.Cover4
set_option linter.unusedVariables false
namespace Go.Proofs.YtjjcibbokeadiaaDoor
open Go.RowKit

theorem let_rn {r : Nat} (h : okR r) : rn (encN r) = [(r, (encN r).length)] := by
  have := rn_enc h []
  rwa [List.append_nil, rn_nil] at this
theorem let_0 {r : Nat} (h : okR r) : nameL (encN r) = letB (r : Int) := by
  unfold nameL nameR
  rw [let_rn h]
  simp [okN, bad_enc]
theorem let_1 {r : Nat} (h : okR r) : nameL (97 :: encN r) = (letB (r : Int) || digB (r : Int)) := by
  unfold nameL nameR
  rw [rn_head (by omega), let_rn h]
  have e1 : badR (97, 1) = false := rfl
  have e2 : letB 97 = true := by decide
  simp [okN, bad_enc, e1, e2]
/-- '[]rune{r}' as a text. -/
theorem run_one (W : World) (r : Int) : (convert 24 9 (.slice (some ⟨W.heap.size, 0, none⟩) 1 1)).run Tryd.prog (W.alloc (.cells #[.int .i32 r] 21)) = .ok (.string (Utf8.encode r)) (W.alloc (.cells #[.int .i32 r] 21)) := by
  rw [run_convert_runes_string _ _ _ 21 _ _ _ Tryd.underlying24 Tryd.underlying21 Tryd.underlying9]
  have hl : (loadCells ⟨W.heap.size, 0, none⟩ 1).run Tryd.prog (W.alloc (.cells #[.int .i32 r] 21)) = .ok (([r].map (Value.int .i32)).toArray) (W.alloc (.cells #[.int .i32 r] 21)) := by
    have hc : (W.alloc (.cells #[.int .i32 r] 21)).cell? ⟨W.heap.size, 0, none⟩ = some (.int .i32 r) := cell_new rfl _ _
    refine run_loadCells_list _ ⟨W.heap.size, 0, none⟩ [Value.int .i32 r] (fun j v hv => ?_)
    cases j with
    | zero =>
      simp only [List.getElem?_cons_zero, Option.some.injEq] at hv
      subst hv
      exact hc
    | succ j => simp at hv
  rw [run_runesToString _ _ 1 1 [r] hl]
  have : runesBytes [r] = Utf8.encode r := by
    unfold runesBytes
    simp
  rw [this]
theorem let_pack {r : Int} {n : Nat} (hn : r = n) (ho : okR n) : ∃ t : ByteArray, (∀ W : World, (convert 24 9 (.slice (some ⟨W.heap.size, 0, none⟩) 1 1)).run Tryd.prog (W.alloc (.cells #[.int .i32 r] 21)) = .ok (.string t) (W.alloc (.cells #[.int .i32 r] 21))) ∧ t.size ≤ 4 ∧
    nameL (byt t) = letB r ∧ (rn (byt t)).length = 1 ∧ nameL (byt (⟨#[97]⟩ ++ t)) = (letB r || digB r) := by
  subst hn
  obtain ⟨t, ht⟩ : ∃ t, Utf8.encode (n : Int) = t := ⟨_, rfl⟩
  have hz4 := encode_le (n : Int)
  have hby : byt (Utf8.encode (n : Int)) = encN n := byt_encode (n : Int) (by omega) (by simpa using ho)
  have hcv := fun W : World => run_one W (n : Int)
  rw [ht] at hz4 hby
  refine ⟨t, fun W => by have := hcv W; rw [ht] at this; exact this, hz4, ?_, ?_, ?_⟩
  · rw [hby, let_0 ho]
  · rw [hby, let_rn ho]
    rfl
  · rw [byt_app, show byt ⟨#[97]⟩ = [97] from rfl, List.singleton_append, hby, let_1 ho]
theorem let_known (P : Prop) (r : Int) (q1 : r < 0 → P) (q2 : ¬ r < 0 → 1114111 < r → P) (q3 : ¬ r < 0 → ¬ 1114111 < r → 55296 ≤ r → r ≤ 57343 → P) (q4 : ∀ n : Nat, r = n → okR n → P) : P := by
  by_cases h1 : r < 0
  · exact q1 h1
  · by_cases h2 : 1114111 < r
    · exact q2 h1 h2
    · by_cases h3 : 55296 ≤ r ∧ r ≤ 57343
      · exact q3 h1 h2 h3.1 h3.2
      · obtain ⟨n, rfl⟩ := Int.eq_ofNat_of_zero_le (show 0 ≤ r by omega)
        refine q4 n rfl ?_
        unfold okR
        omega
theorem letB_no {r : Int} (h : r < 0 ∨ 591 < r) : letB r = false := by
  unfold letB
  rw [decide_eq_false_iff_not]
  omega
set_option maxRecDepth 100000 in
set_option maxHeartbeats 8000000 in
theorem letters_calls (r : Int) (w : World) (hT : Tabs w) :
    Calls Tryd.prog 3 #[.int .i32 r] w fun e w' => e = .returned (.bool true) ∧ Below w.heap.size w w' := by
  have HT := Lib.hid hT
  clear hT
  have KL := Lib.hid (fun W => Letter_calls r W)
  have KM := Lib.hid (fun W => RefLetter_calls r W)
  refine let_known _ r (fun h1 => ?_) (fun h1 h2 => ?_) (fun h1 h2 h3 h4 => ?_) (fun n hn ho => ?_)
  · rw [letB_no (.inl h1)] at KL KM
    go_enter Tryd.func3, Tryd.ntmps3
    go_wp2_with (first | (go_at_call 13; refine (KL.out _).mono ?_; rintro e w1 ⟨rfl, rfl⟩) | (go_at_call 14; refine (KM.out _).mono ?_; rintro e w1 ⟨rfl, rfl⟩))
    refine (known_calls _ HT.out).mono ?_
    rintro e w5 ⟨rfl, hb5⟩
    go_wp2_with fail
    go_ret
    exact ⟨rfl, hb5⟩
  · rw [letB_no (.inr (by omega))] at KL KM
    go_enter Tryd.func3, Tryd.ntmps3
    go_wp2_with (first | (go_at_call 13; refine (KL.out _).mono ?_; rintro e w1 ⟨rfl, rfl⟩) | (go_at_call 14; refine (KM.out _).mono ?_; rintro e w1 ⟨rfl, rfl⟩))
    refine (known_calls _ HT.out).mono ?_
    rintro e w5 ⟨rfl, hb5⟩
    go_wp2_with fail
    go_ret
    exact ⟨rfl, hb5⟩
  · rw [letB_no (.inr (by omega))] at KL KM
    go_enter Tryd.func3, Tryd.ntmps3
    go_wp2_with (first | (go_at_call 13; refine (KL.out _).mono ?_; rintro e w1 ⟨rfl, rfl⟩) | (go_at_call 14; refine (KM.out _).mono ?_; rintro e w1 ⟨rfl, rfl⟩))
    refine (known_calls _ HT.out).mono ?_
    rintro e w5 ⟨rfl, hb5⟩
    go_wp2_with fail
    go_ret
    exact ⟨rfl, hb5⟩
  · obtain ⟨t, hcv0, hz4, n0, n1, n2⟩ := let_pack hn ho
    have hcv := hcv0 w
    have hz5 : (⟨#[97]⟩ ++ t : ByteArray).size ≤ 5 := by
      rw [ByteArray.size_append]
      have : (⟨#[97]⟩ : ByteArray).size = 1 := rfl
      omega
    have KI := Lib.hid (fun W h => IsName_calls W h t (by omega))
    have KW := Lib.hid (fun W => Width_calls W t (by omega))
    have KJ := Lib.hid (fun W h => IsName_calls W h (⟨#[97]⟩ ++ t) (by omega))
    rw [n0] at KI
    rw [n1, show ((1 : Nat) : Int) = 1 from rfl] at KW
    rw [n2] at KJ
    have ht8 : (t.size : Int) ≤ 8388608 := by omega
    clear hcv0 hz4 hz5 n0 n1 n2
    unfold okR at ho
    have g1 : ¬ r < 0 := by omega
    have g2 : ¬ (1114111 : Int) < r := by omega
    have hg : ∀ P : Prop, (¬ (55296 : Int) ≤ r → P) → ((55296 : Int) ≤ r → ¬ r ≤ 57343 → P) → P := by
      intro P p1 p2
      by_cases h : (55296 : Int) ≤ r
      · exact p2 h (by omega)
      · exact p1 h
    clear ho hn
    have hd : ∀ P : Prop, (letB r = true → P) → (letB r = false → (48 : Int) ≤ r → r ≤ 57 → digB r = true → P) → (letB r = false → (48 : Int) ≤ r → ¬ r ≤ 57 → digB r = false → P) → (letB r = false → ¬ (48 : Int) ≤ r → digB r = false → P) → P := by
      intro P p1 p2 p3 p4
      cases hb : letB r with
      | true => exact p1 hb
      | false =>
        by_cases h1 : (48 : Int) ≤ r
        · by_cases h2 : r ≤ 57
          · exact p2 hb h1 h2 (decide_eq_true ⟨h1, h2⟩)
          · exact p3 hb h1 h2 (decide_eq_false (fun h => h2 h.2))
        · exact p4 hb h1 (decide_eq_false (fun h => h1 h.1))
    refine hg _ (fun g3 => ?_) (fun g3 g4 => ?_)
    all_goals
      refine hd _ (fun q1 => ?_) (fun q1 d1 d2 q2 => ?_) (fun q1 d1 d2 q2 => ?_) (fun q1 d1 q2 => ?_)
      all_goals try (exfalso; omega)
      all_goals
        rw [q1] at KL KM KI KJ
        try rw [q2] at KJ
        simp only [Bool.true_or, Bool.false_or] at KJ
        try clear q2
        clear q1 hg hd
        go_enter Tryd.func3, Tryd.ntmps3
        go_wp2_with (first | (go_at_call 13; refine (KL.out _).mono ?_; rintro e w1 ⟨rfl, rfl⟩) | (go_at_call 14; refine (KM.out _).mono ?_; rintro e w1 ⟨rfl, rfl⟩))
        have HB0 := Lib.hid (below_new w (.cells #[.int .i32 r] 21))
        refine (KI.out _ (HT.out.stay HB0.out)).mono ?_
        rintro e w1 ⟨rfl, hb1⟩
        have HB1 := Lib.hid (below_more HB0.out hb1)
        clear hb1
        go_wp2_with fail
        refine (KW.out w1).mono ?_
        rintro e w2 ⟨rfl, hb2⟩
        have HB2 := Lib.hid (below_more HB1.out hb2)
        clear hb2
        go_wp2_with fail
        refine (KJ.out w2 (HT.out.stay HB2.out)).mono ?_
        rintro e w3 ⟨rfl, hb3⟩
        have HB3 := Lib.hid (below_more HB2.out hb3)
        clear hb3
        go_wp2_with fail
        refine (known_calls _ (HT.out.stay HB3.out)).mono ?_
        rintro e w4 ⟨rfl, hb4⟩
        go_wp2_with fail
        go_ret
        refine ⟨ret_bool ?_, below_more HB3.out hb4⟩
        first
          | rfl
          | (simp; omega)
end Go.Proofs.YtjjcibbokeadiaaDoor
