/- Walk of GlyphBytes. -/
import Derived.Test.YtjjcibbokeadiaaDoorGlNam
import Derived.WalkLawsBesides
set_option linter.unusedVariables false
namespace Go.Proofs.YtjjcibbokeadiaaDoor
open Go.RowKit

/-- The order of rows of numbers. -/
def lexN : List Nat → List Nat → Bool
  | [], [] => false
  | [], _ :: _ => true
  | _ :: _, [] => false
  | x :: a, y :: b => if x < y then true else if y < x then false else lexN a b
theorem lexN_pre : ∀ p a b : List Nat, lexN (p ++ a) (p ++ b) = lexN a b
  | [], _, _ => rfl
  | x :: p, a, b => by
    rw [List.cons_append, List.cons_append, lexN, if_neg (by omega), if_neg (by omega)]
    exact lexN_pre p a b
theorem lexN_lt {x y : Nat} (h : x < y) (a b : List Nat) : lexN (x :: a) (y :: b) = true := by rw [lexN, if_pos h]
theorem lexN_gt {x y : Nat} (h : y < x) (a b : List Nat) : lexN (x :: a) (y :: b) = false := by rw [lexN, if_neg (by omega), if_pos h]
/-- At the first place where two rows differ. -/
theorem lexN_at {p a b s t : List Nat} {x y : Nat} (ha : a = p ++ x :: s) (hb : b = p ++ y :: t) (h : x < y) : lexN a b = true ∧ lexN b a = false := by
  subst ha hb
  rw [lexN_pre, lexN_pre]
  exact ⟨lexN_lt h _ _, lexN_gt h _ _⟩
theorem enc_lt {r q : Nat} (h : r < q) (hq : okR q) (s t : List Nat) : lexN (encN r ++ s) (encN q ++ t) = true ∧ lexN (encN q ++ t) (encN r ++ s) = false := by
  unfold okR at hq
  by_cases a1 : q < 128
  · have e1 : encN q = [q] := if_pos a1
    have e2 : encN r = [r] := if_pos (by omega)
    rw [e1, e2]
    exact lexN_at (p := []) rfl rfl h
  by_cases a2 : q < 2048
  · have e1 : encN q = [192 + q / 64, 128 + q % 64] := (if_neg a1).trans (if_pos a2)
    rw [e1]
    by_cases b1 : r < 128
    · have e2 : encN r = [r] := if_pos b1
      rw [e2]
      exact lexN_at (p := []) rfl rfl (by omega)
    · have e2 : encN r = [192 + r / 64, 128 + r % 64] := (if_neg b1).trans (if_pos (by omega))
      rw [e2]
      by_cases e : r / 64 = q / 64
      · rw [e]
        exact lexN_at (p := [192 + q / 64]) rfl rfl (by omega)
      · exact lexN_at (p := []) rfl rfl (by omega)
  by_cases a3 : q < 65536
  · have e1 : encN q = [224 + q / 4096, 128 + q / 64 % 64, 128 + q % 64] := (if_neg a1).trans ((if_neg a2).trans (if_pos a3))
    rw [e1]
    by_cases b1 : r < 128
    · have e2 : encN r = [r] := if_pos b1
      rw [e2]
      exact lexN_at (p := []) rfl rfl (by omega)
    by_cases b2 : r < 2048
    · have e2 : encN r = [192 + r / 64, 128 + r % 64] := (if_neg b1).trans (if_pos b2)
      rw [e2]
      exact lexN_at (p := []) rfl rfl (by omega)
    have e2 : encN r = [224 + r / 4096, 128 + r / 64 % 64, 128 + r % 64] := (if_neg b1).trans ((if_neg b2).trans (if_pos (by omega)))
    rw [e2]
    by_cases e : r / 4096 = q / 4096
    · by_cases e' : r / 64 % 64 = q / 64 % 64
      · rw [e, e']
        exact lexN_at (p := [224 + q / 4096, 128 + q / 64 % 64]) rfl rfl (by omega)
      · rw [e]
        exact lexN_at (p := [224 + q / 4096]) rfl rfl (by omega)
    · exact lexN_at (p := []) rfl rfl (by omega)
  have e1 : encN q = [240 + q / 262144, 128 + q / 4096 % 64, 128 + q / 64 % 64, 128 + q % 64] := (if_neg a1).trans ((if_neg a2).trans (if_neg a3))
  rw [e1]
  by_cases b1 : r < 128
  · have e2 : encN r = [r] := if_pos b1
    rw [e2]
    exact lexN_at (p := []) rfl rfl (by omega)
  by_cases b2 : r < 2048
  · have e2 : encN r = [192 + r / 64, 128 + r % 64] := (if_neg b1).trans (if_pos b2)
    rw [e2]
    exact lexN_at (p := []) rfl rfl (by omega)
  by_cases b3 : r < 65536
  · have e2 : encN r = [224 + r / 4096, 128 + r / 64 % 64, 128 + r % 64] := (if_neg b1).trans ((if_neg b2).trans (if_pos b3))
    rw [e2]
    exact lexN_at (p := []) rfl rfl (by omega)
  have e2 : encN r = [240 + r / 262144, 128 + r / 4096 % 64, 128 + r / 64 % 64, 128 + r % 64] := (if_neg b1).trans ((if_neg b2).trans (if_neg b3))
  rw [e2]
  by_cases e : r / 262144 = q / 262144
  · by_cases f1 : r / 4096 % 64 = q / 4096 % 64
    · by_cases f2 : r / 64 % 64 = q / 64 % 64
      · rw [e, f1, f2]
        exact lexN_at (p := [240 + q / 262144, 128 + q / 4096 % 64, 128 + q / 64 % 64]) rfl rfl (by omega)
      · rw [e, f1]
        exact lexN_at (p := [240 + q / 262144, 128 + q / 4096 % 64]) rfl rfl (by omega)
    · rw [e]
      exact lexN_at (p := [240 + q / 262144]) rfl rfl (by omega)
  · exact lexN_at (p := []) rfl rfl (by omega)
/-- Of texts without wrong runes the order is that of their bytes. -/
theorem cmp_bytes : ∀ (n : Nat) (a b : List Nat), a.length ≤ n → (∀ x ∈ a, x < 256) → (∀ x ∈ b, x < 256) → wholeR (rn a) = true → wholeR (rn b) = true →
    (cmpR (rn a) (rn b) < 0 ↔ lexN a b = true) ∧ (cmpR (rn a) (rn b) = 0 ↔ a = b)
  | n, [], [], _, _, _, _, _ => by simp [rn_nil, cmpR, lexN]
  | n, [], y :: b, _, _, _, _, _ => by
    rw [rn_nil, rn_cons (l := y :: b) (by simp)]
    simp [cmpR, lexN]
  | n, x :: a, [], _, _, _, _, _ => by
    rw [rn_nil, rn_cons (l := x :: a) (by simp)]
    simp [cmpR, lexN]
  | 0, x :: a, y :: b, h, _, _, _, _ => by simp at h
  | n + 1, x :: a, y :: b, h, ha, hb, wa, wb => by
    have hne : (x :: a) ≠ [] := by simp
    have hne' : (y :: b) ≠ [] := by simp
    generalize x :: a = l at *
    generalize y :: b = m at *
    rw [rn_cons hne] at wa ⊢
    rw [rn_cons hne'] at wb ⊢
    have wa1 : badR (decL l) = false ∧ wholeR (rn (l.drop (decL l).2)) = true := by simpa [wholeR] using wa
    have wb1 : badR (decL m) = false ∧ wholeR (rn (m.drop (decL m).2)) = true := by simpa [wholeR] using wb
    have hwd := dec_width hne
    obtain ⟨p1, p2⟩ := enc_dec hne ha wa1.1
    obtain ⟨q1, q2⟩ := enc_dec hne' hb wb1.1
    have e1 : l = encN (decL l).1 ++ l.drop (decL l).2 := by rw [p2, List.take_append_drop]
    have e2 : m = encN (decL m).1 ++ m.drop (decL m).2 := by rw [q2, List.take_append_drop]
    have ih := cmp_bytes n (l.drop (decL l).2) (m.drop (decL m).2) (by rw [List.length_drop]; omega) (fun z hz => ha z (List.mem_of_mem_drop hz)) (fun z hz => hb z (List.mem_of_mem_drop hz)) wa1.2 wb1.2
    rw [cmpR]
    rcases Nat.lt_trichotomy (decL l).1 (decL m).1 with hlt | heq | hgt
    · rw [if_pos hlt]
      have hx := enc_lt hlt q1 (l.drop (decL l).2) (m.drop (decL m).2)
      rw [← e1, ← e2] at hx
      refine ⟨by rw [hx.1]; simp, ⟨(fun h => by cases h), fun h => ?_⟩⟩
      rw [h] at hlt
      omega
    · rw [if_neg (by omega), if_neg (by omega)]
      have hl : lexN l m = lexN (l.drop (decL l).2) (m.drop (decL m).2) := by
        have := lexN_pre (encN (decL l).1) (l.drop (decL l).2) (m.drop (decL m).2)
        rw [← e1] at this
        rw [heq, ← e2] at this
        exact this
      refine ⟨by rw [hl]; exact ih.1, ?_⟩
      rw [ih.2]
      constructor
      · intro h
        rw [e1, e2, heq, h]
      · intro h
        rw [h]
    · rw [if_neg (by omega), if_pos hgt]
      have hx := enc_lt hgt p1 (m.drop (decL m).2) (l.drop (decL l).2)
      rw [← e1, ← e2] at hx
      refine ⟨by rw [hx.2]; simp, ⟨(fun h => by cases h), fun h => ?_⟩⟩
      rw [h] at hgt
      omega
theorem less_map : ∀ l m : List UInt8, Op.bytesLess l m = lexN (l.map UInt8.toNat) (m.map UInt8.toNat)
  | [], [] => rfl
  | _ :: _, [] => rfl
  | [], _ :: _ => rfl
  | x :: l, y :: m => by
    rw [Op.bytesLess, List.map_cons, List.map_cons, lexN, less_map l m]
    by_cases h1 : x.toNat < y.toNat
    · have : (x < y) := h1
      rw [if_pos h1]
      simp [this]
    · have n1 : ¬ (x < y) := h1
      rw [if_neg h1]
      by_cases h2 : y.toNat < x.toNat
      · rw [if_pos h2]
        have : ¬ x = y := fun e => by rw [e] at h2; omega
        simp [n1, this]
      · rw [if_neg h2]
        have : x = y := UInt8.toNat_inj.1 (by omega)
        subst this
        simp
theorem less_byt (a b : ByteArray) : Op.bytesLess a.toList b.toList = lexN (byt a) (byt b) := by
  rw [less_map, Lib.toList_data, Lib.toList_data]
  rfl
theorem bytes_facts (a b : ByteArray) (ha : wholeR (rn (byt a)) = true) (hb : wholeR (rn (byt b)) = true) :
    ∃ lb eb, Op.bytesLess a.toList b.toList = lb ∧ (a == b) = eb ∧ (a.toList == b.toList) = eb ∧ decide (cmpL (byt a) (byt b) < 0) = lb ∧ (cmpL (byt a) (byt b) == 0) = eb := by
  obtain ⟨h1, h2⟩ := cmp_bytes _ (byt a) (byt b) (Nat.le_refl _) (byt_lt a) (byt_lt b) ha hb
  have e0 : (a == b) = decide (a = b) := by
    obtain ⟨a⟩ := a
    obtain ⟨b⟩ := b
    show (a == b) = _
    by_cases h : a = b <;> simp [h]
  have e1 : (byt a = byt b) ↔ a = b := ⟨byt_inj, fun h => by rw [h]⟩
  refine ⟨_, _, rfl, rfl, ?_, ?_, ?_⟩
  · rw [e0, Bool.eq_iff_iff]
    simp only [beq_iff_eq, decide_eq_true_eq]
    rw [Lib.toList_data, Lib.toList_data]
    constructor
    · intro h
      apply byt_inj
      unfold byt
      rw [h]
    · intro h
      rw [h]
  · rw [less_byt, Bool.eq_iff_iff, decide_eq_true_eq]
    exact h1
  · rw [e0, Bool.eq_iff_iff, beq_iff_eq, decide_eq_true_eq, ← e1]
    exact h2
set_option maxRecDepth 100000 in
set_option maxHeartbeats 8000000 in
theorem bytes_calls (a b : ByteArray) (w : World) (hT : Tabs w) :
    Calls Tryd.prog 12 #[.string a, .string b] w fun e w' => e = .returned (.bool true) ∧ Below w.heap.size w w' := by
  have HT := Lib.hid hT
  clear hT
  by_cases h1 : (300 : Int) < (a.size : Int)
  · go_enter Tryd.func12, Tryd.ntmps12
    go_wp2_with fail
    go_ret
    exact ⟨rfl, Below.refl _ _⟩
  by_cases h2 : (300 : Int) < (b.size : Int)
  · go_enter Tryd.func12, Tryd.ntmps12
    go_wp2_with fail
    go_ret
    exact ⟨rfl, Below.refl _ _⟩
  have KA := Lib.hid (whole_calls w HT.out a (by omega))
  have KB := Lib.hid (fun W h => whole_calls W h b (by omega))
  cases hwa : wholeR (rn (byt a)) with
  | false =>
    rw [hwa] at KA
    clear hwa
    go_enter Tryd.func12, Tryd.ntmps12
    go_wp2_with fail
    refine KA.out.mono ?_
    rintro e w1 ⟨rfl, hb1⟩
    go_wp2_with fail
    go_ret
    exact ⟨rfl, hb1⟩
  | true =>
    rw [hwa] at KA
    cases hwb : wholeR (rn (byt b)) with
    | false =>
      rw [hwb] at KB
      clear hwa hwb
      go_enter Tryd.func12, Tryd.ntmps12
      go_wp2_with fail
      refine KA.out.mono ?_
      rintro e w1 ⟨rfl, hb1⟩
      go_wp2_with fail
      refine (KB.out w1 (HT.out.stay hb1)).mono ?_
      rintro e w2 ⟨rfl, hb2⟩
      go_wp2_with fail
      go_ret
      exact ⟨rfl, below_more hb1 hb2⟩
    | true =>
      rw [hwb] at KB
      have KC := Lib.hid (fun W => Cmp_calls W a b (by omega) (by omega))
      obtain ⟨lb, eb, f1, f2, f3, f4, f5⟩ := bytes_facts a b hwa hwb
      clear hwa hwb
      generalize cmpL (byt a) (byt b) = z at *
      cases lb <;> cases eb
      all_goals
        go_enter Tryd.func12, Tryd.ntmps12
        go_wp2_with fail
        refine KA.out.mono ?_
        rintro e w1 ⟨rfl, hb1⟩
        go_wp2_with fail
        refine (KB.out w1 (HT.out.stay hb1)).mono ?_
        rintro e w2 ⟨rfl, hb2⟩
        have HB2 := Lib.hid (below_more hb1 hb2)
        clear hb1 hb2
        go_wp2_with fail
        refine (KC.out w2).mono ?_
        rintro e w3 ⟨rfl, hb3⟩
        have HB3 := Lib.hid (below_more HB2.out hb3)
        clear hb3
        go_wp2_with fail
        refine (KC.out w3).mono ?_
        rintro e w4 ⟨rfl, hb4⟩
        have HB4 := Lib.hid (below_more HB3.out hb4)
        clear hb4
        go_wp2_with fail
        refine (known_calls _ (HT.out.stay HB4.out)).mono ?_
        rintro e w5 ⟨rfl, hb5⟩
        go_wp2_with fail
        go_ret
        exact ⟨rfl, below_more HB4.out hb5⟩
end Go.Proofs.YtjjcibbokeadiaaDoor
