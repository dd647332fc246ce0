/- Plain laws of runes: one text behind another; the order. -/
import Derived.Test.YtjjcibbokeadiaaDoorGlCm2
set_option linter.unusedVariables false
namespace Go.Proofs.YtjjcibbokeadiaaDoor

theorem dec_app {l : List Nat} (hne : l ≠ []) (hb : ∀ x ∈ l, x < 256) (h : badR (decL l) = false) (t : List Nat) : decL (l ++ t) = decL l := by
  obtain ⟨h1, h2⟩ := enc_dec hne hb h
  have hw := dec_width hne
  have e1 : l = encN (decL l).1 ++ l.drop (decL l).2 := by rw [h2, List.take_append_drop]
  have hl : (encN (decL l).1).length = (decL l).2 := by rw [h2, List.length_take]; omega
  have e2 := dec_enc (decL l).1 h1 (l.drop (decL l).2 ++ t)
  rw [← List.append_assoc, ← e1, hl] at e2
  exact e2
theorem rn_app_aux : ∀ (n : Nat) (l t : List Nat), l.length ≤ n → (∀ x ∈ l, x < 256) → wholeR (rn l) = true → rn (l ++ t) = rn l ++ rn t
  | 0, l, t, h, _, _ => by
    have : l = [] := List.eq_nil_of_length_eq_zero (by omega)
    subst this
    rfl
  | n + 1, l, t, h, hb, hw => by
    by_cases hne : l = []
    · subst hne; rfl
    · rw [rn_cons hne] at hw ⊢
      have hw1 : badR (decL l) = false ∧ wholeR (rn (l.drop (decL l).2)) = true := by simpa [wholeR] using hw
      have hwd := dec_width hne
      rw [rn_cons (by simp [hne]), dec_app hne hb hw1.1, List.drop_append_of_le_length hwd.2.1, rn_app_aux n _ t (by rw [List.length_drop]; omega) (fun x hx => hb x (List.mem_of_mem_drop hx)) hw1.2]
      rfl
/-- Behind a text without wrong runes stand the other one's. -/
theorem rn_app {l : List Nat} (t : List Nat) (hb : ∀ x ∈ l, x < 256) (hw : wholeR (rn l) = true) : rn (l ++ t) = rn l ++ rn t := rn_app_aux _ l t (Nat.le_refl _) hb hw
theorem byt_app (x y : ByteArray) : byt (x ++ y) = byt x ++ byt y := by
  unfold byt
  rw [ByteArray.data_append, Array.toList_append, List.map_append]
end Go.Proofs.YtjjcibbokeadiaaDoor
