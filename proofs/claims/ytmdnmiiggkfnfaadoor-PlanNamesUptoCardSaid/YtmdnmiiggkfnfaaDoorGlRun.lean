/- Runes of a text: plain Lean, no program in sight. -/
import Derived.Lib.DecodeN
import Derived.Laws.RangeAny
set_option linter.unusedVariables false
set_option linter.unusedSimpArgs false
namespace Go.Proofs.YtmdnmiiggkfnfaaDoor
open Go.Lib

/-- The bytes of a text, as numbers. -/
def byt (s : ByteArray) : List Nat := s.data.toList.map UInt8.toNat
theorem byt_len (s : ByteArray) : (byt s).length = s.size := by
  unfold byt
  rw [List.length_map, Array.length_toList]
  rfl
theorem byt_lt (s : ByteArray) : ∀ x ∈ byt s, x < 256 := by
  intro x hx
  obtain ⟨c, _, rfl⟩ := List.mem_map.1 hx
  exact c.toNat_lt
theorem byt_get (s : ByteArray) (i : Nat) : (s.get! i).toNat = (byt s).getD i 0 := by
  by_cases h : i < s.size
  · have h1 : s.get! i = s[i]'h := by
      have := get_at s i h
      simpa using this
    have h2 : (byt s)[i]? = some (s[i]'h).toNat := by
      unfold byt
      rw [List.getElem?_map, List.getElem?_eq_getElem (by simpa using h)]
      rfl
    rw [h1, List.getD_eq_getElem?_getD, h2]
    rfl
  · have h2 : (byt s)[i]? = none := List.getElem?_eq_none (by rw [byt_len]; omega)
    rw [List.getD_eq_getElem?_getD, h2]
    have h3 : ¬ i < s.data.size := h
    simp only [ByteArray.get!, getElem!_def, Array.getElem?_eq_none (Nat.le_of_not_lt h3)]
    rfl
theorem byt_inj {s t : ByteArray} (h : byt s = byt t) : s = t := by
  obtain ⟨⟨a⟩⟩ := s
  obtain ⟨⟨b⟩⟩ := t
  unfold byt at h
  simp only at h
  have : a = b := List.map_inj_right (fun x y e => UInt8.toNat_inj.1 e) |>.1 h
  rw [this]

/-- The rune with which bytes begin, and how many bytes it has. -/
def decL (l : List Nat) : Nat × Nat := decodeN l.length (l.getD 0 0) (l.getD 1 0) (l.getD 2 0) (l.getD 3 0)
theorem decL_at (s : ByteArray) (i : Nat) : Utf8.decode s i = decL ((byt s).drop i) := by
  have g : ∀ k, ((byt s).drop i).getD k 0 = (byt s).getD (i + k) 0 := by
    intro k
    rw [List.getD_eq_getElem?_getD, List.getD_eq_getElem?_getD, List.getElem?_drop]
  rw [decode_at]
  unfold decL
  rw [List.length_drop, byt_len, g 0, g 1, g 2, g 3, byt_get, byt_get, byt_get, byt_get]
  rfl
theorem dec_width {l : List Nat} (h : l ≠ []) : 1 ≤ (decL l).2 ∧ (decL l).2 ≤ l.length ∧ (decL l).2 ≤ 4 := by
  have hl : 0 < l.length := List.length_pos_iff.2 h
  unfold decL decodeN
  repeat' split
  all_goals (dsimp only; omega)
theorem dec_rune (l : List Nat) (hb : ∀ x ∈ l, x < 256) : (decL l).1 ≤ 1114111 := by
  have g : ∀ k, l.getD k 0 < 256 := by
    intro k
    rw [List.getD_eq_getElem?_getD]
    cases hk : l[k]? with
    | none => simp
    | some x => exact hb x (List.mem_of_getElem? hk)
  have g0 := g 0
  have g1 := g 1
  have g2 := g 2
  have g3 := g 3
  unfold decL decodeN
  generalize l.getD 0 0 = a at *
  generalize l.getD 1 0 = b at *
  generalize l.getD 2 0 = c at *
  generalize l.getD 3 0 = d at *
  repeat' split
  all_goals (dsimp only; omega)

def rnF : Nat → List Nat → List (Nat × Nat)
  | 0, _ => []
  | f + 1, l => if l = [] then [] else decL l :: rnF f (l.drop (decL l).2)
/-- All runes of bytes, each with how many bytes it has. -/
def rn (l : List Nat) : List (Nat × Nat) := rnF l.length l
theorem rnF_more : ∀ (f g : Nat) (l : List Nat), l.length ≤ f → l.length ≤ g → rnF f l = rnF g l
  | 0, g, l, h, _ => by
    have : l = [] := List.eq_nil_of_length_eq_zero (by omega)
    subst this
    cases g <;> simp [rnF]
  | f + 1, 0, l, _, h => by
    have : l = [] := List.eq_nil_of_length_eq_zero (by omega)
    subst this
    simp [rnF]
  | f + 1, g + 1, l, h1, h2 => by
    rw [rnF, rnF]
    split
    · rfl
    · rename_i hne
      have hw := dec_width hne
      rw [rnF_more f g (l.drop (decL l).2) (by rw [List.length_drop]; omega) (by rw [List.length_drop]; omega)]
theorem rn_nil : rn [] = [] := rfl
theorem rn_cons {l : List Nat} (h : l ≠ []) : rn l = decL l :: rn (l.drop (decL l).2) := by
  have hl : 0 < l.length := List.length_pos_iff.2 h
  obtain ⟨n, hn⟩ : ∃ n, l.length = n + 1 := ⟨l.length - 1, by omega⟩
  have hw := dec_width h
  unfold rn
  rw [hn, rnF, if_neg h]
  congr 1
  exact rnF_more _ _ _ (by rw [List.length_drop]; omega) (Nat.le_refl _)
theorem rn_len (l : List Nat) : (rn l).length ≤ l.length := by
  unfold rn
  suffices h : ∀ f l, (rnF f l).length ≤ f from h _ _
  intro f
  induction f with
  | zero => intro l; simp [rnF]
  | succ f ih =>
    intro l
    rw [rnF]
    split
    · simp
    · have := ih (l.drop (decL l).2)
      simp only [List.length_cons]
      omega
/-- Is a rune a wrong one? -/
def badR (x : Nat × Nat) : Bool := x.1 == 65533 && x.2 == 1
def wholeL (l : List Nat) : Bool := (rn l).all fun x => !badR x

/-- A rune's bytes. -/
def encN (r : Nat) : List Nat :=
  if r < 128 then [r]
  else if r < 2048 then [192 + r / 64, 128 + r % 64]
  else if r < 65536 then [224 + r / 4096, 128 + r / 64 % 64, 128 + r % 64]
  else [240 + r / 262144, 128 + r / 4096 % 64, 128 + r / 64 % 64, 128 + r % 64]
def okR (r : Nat) : Prop := r < 55296 ∨ (57344 ≤ r ∧ r ≤ 1114111)
theorem encN_lt (r : Nat) (h : okR r) : ∀ x ∈ encN r, x < 256 := by
  unfold okR at h
  unfold encN
  intro x hx
  split at hx
  · simp at hx; omega
  · split at hx
    · simp at hx; omega
    · split at hx
      · simp at hx; omega
      · simp at hx; omega
theorem encN_len (r : Nat) : 1 ≤ (encN r).length ∧ (encN r).length ≤ 4 := by
  unfold encN
  repeat' split
  all_goals simp
theorem byt_encode (r : Int) (h0 : 0 ≤ r) (h : okR r.toNat) : byt (Utf8.encode r) = encN r.toNat := by
  unfold okR at h
  have hv : Utf8.valid r = true := by
    unfold Utf8.valid
    simp
    omega
  unfold Utf8.encode encN byt
  simp only [hv, if_true]
  split
  · simp; omega
  · split
    · simp; omega
    · split
      · simp; omega
      · simp; omega
theorem byt_encode_bad (r : Int) (h : r < 0 ∨ ¬ okR r.toNat) : byt (Utf8.encode r) = [239, 191, 189] := by
  unfold okR at h
  have hv : Utf8.valid r = false := by
    unfold Utf8.valid
    simp
    omega
  unfold Utf8.encode byt Utf8.runeError
  simp [hv]
/-- What was written is read. -/
theorem dec_enc (r : Nat) (h : okR r) (t : List Nat) : decL (encN r ++ t) = (r, (encN r).length) := by
  unfold okR at h
  unfold encN
  split
  · unfold decL decodeN
    simp
    omega
  · split
    · unfold decL decodeN
      simp only [List.cons_append, List.nil_append, List.getD_cons_zero, List.getD_cons_succ, List.length_cons]
      rw [if_neg (by omega), if_pos (by omega), if_pos (by omega)]
      simp
      omega
    · split
      · unfold decL decodeN
        simp only [List.cons_append, List.nil_append, List.getD_cons_zero, List.getD_cons_succ, List.length_cons]
        rw [if_neg (by omega), if_neg (by omega), if_pos (by omega), if_pos (by omega)]
        simp
        omega
      · unfold decL decodeN
        simp only [List.cons_append, List.nil_append, List.getD_cons_zero, List.getD_cons_succ, List.length_cons]
        rw [if_neg (by omega), if_neg (by omega), if_neg (by omega), if_pos (by omega), if_pos (by omega)]
        simp
        omega
theorem take4 (l : List Nat) (w : Nat) (h : w ≤ l.length) (h4 : w ≤ 4) : l.take w = [l.getD 0 0, l.getD 1 0, l.getD 2 0, l.getD 3 0].take w := by
  rcases l with _ | ⟨a, _ | ⟨b, _ | ⟨c, _ | ⟨d, t⟩⟩⟩⟩ <;> simp only [List.length_cons, List.length_nil] at h
  · obtain rfl : w = 0 := by omega
    rfl
  · rcases w with _ | _ | w
    · rfl
    · rfl
    · omega
  · rcases w with _ | _ | _ | w
    · rfl
    · rfl
    · rfl
    · omega
  · rcases w with _ | _ | _ | _ | w
    · rfl
    · rfl
    · rfl
    · rfl
    · omega
  · rcases w with _ | _ | _ | _ | _ | w
    · rfl
    · rfl
    · rfl
    · rfl
    · simp
    · omega
theorem enc_core (n a b c d : Nat) (ha : a < 256) (hb : b < 256) (hc : c < 256) (hd : d < 256) (h : badR (decodeN n a b c d) = false) :
    okR (decodeN n a b c d).1 ∧ encN (decodeN n a b c d).1 = [a, b, c, d].take (decodeN n a b c d).2 := by
  unfold okR
  by_cases c1 : a < 128
  · have e : decodeN n a b c d = (a, 1) := by unfold decodeN; rw [if_pos c1]
    rw [e]
    dsimp only
    unfold encN
    rw [if_pos c1]
    exact ⟨.inl (by omega), rfl⟩
  by_cases c2 : a / 32 = 6 ∧ (1 < n ∧ b / 64 = 2)
  · by_cases c3 : a % 32 * 64 + b % 64 ≥ 128
    · have e : decodeN n a b c d = (a % 32 * 64 + b % 64, 2) := by unfold decodeN; rw [if_neg c1, if_pos c2, if_pos c3]
      rw [e]
      dsimp only
      unfold encN
      rw [if_neg (by omega), if_pos (by omega)]
      refine ⟨.inl (by omega), ?_⟩
      show _ = [a, b]
      congr 1
      · omega
      · congr 1
        omega
    · have e : decodeN n a b c d = (65533, 1) := by unfold decodeN; rw [if_neg c1, if_pos c2, if_neg c3]
      rw [e] at h
      cases h
  by_cases c3 : a / 16 = 14 ∧ (1 < n ∧ b / 64 = 2) ∧ (2 < n ∧ c / 64 = 2)
  · by_cases c4 : a % 16 * 4096 + b % 64 * 64 + c % 64 ≥ 2048 ∧ (a % 16 * 4096 + b % 64 * 64 + c % 64 < 55296 ∨ (57344 ≤ a % 16 * 4096 + b % 64 * 64 + c % 64 ∧ a % 16 * 4096 + b % 64 * 64 + c % 64 ≤ 1114111))
    · have e : decodeN n a b c d = (a % 16 * 4096 + b % 64 * 64 + c % 64, 3) := by unfold decodeN; rw [if_neg c1, if_neg c2, if_pos c3, if_pos c4]
      rw [e]
      dsimp only
      unfold encN
      rw [if_neg (by omega), if_neg (by omega), if_pos (by omega)]
      refine ⟨by omega, ?_⟩
      show _ = [a, b, c]
      congr 1
      · omega
      · congr 1
        · omega
        · congr 1
          omega
    · have e : decodeN n a b c d = (65533, 1) := by unfold decodeN; rw [if_neg c1, if_neg c2, if_pos c3, if_neg c4]
      rw [e] at h
      cases h
  by_cases c4 : a / 8 = 30 ∧ (1 < n ∧ b / 64 = 2) ∧ (2 < n ∧ c / 64 = 2) ∧ (3 < n ∧ d / 64 = 2)
  · by_cases c5 : a % 8 * 262144 + b % 64 * 4096 + c % 64 * 64 + d % 64 ≥ 65536 ∧ (a % 8 * 262144 + b % 64 * 4096 + c % 64 * 64 + d % 64 < 55296 ∨ (57344 ≤ a % 8 * 262144 + b % 64 * 4096 + c % 64 * 64 + d % 64 ∧ a % 8 * 262144 + b % 64 * 4096 + c % 64 * 64 + d % 64 ≤ 1114111))
    · have e : decodeN n a b c d = (a % 8 * 262144 + b % 64 * 4096 + c % 64 * 64 + d % 64, 4) := by unfold decodeN; rw [if_neg c1, if_neg c2, if_neg c3, if_pos c4, if_pos c5]
      rw [e]
      dsimp only
      unfold encN
      rw [if_neg (by omega), if_neg (by omega), if_neg (by omega)]
      refine ⟨by omega, ?_⟩
      show _ = [a, b, c, d]
      congr 1
      · omega
      · congr 1
        · omega
        · congr 1
          · omega
          · congr 1
            omega
    · have e : decodeN n a b c d = (65533, 1) := by unfold decodeN; rw [if_neg c1, if_neg c2, if_neg c3, if_pos c4, if_neg c5]
      rw [e] at h
      cases h
  · have e : decodeN n a b c d = (65533, 1) := by unfold decodeN; rw [if_neg c1, if_neg c2, if_neg c3, if_neg c4]
    rw [e] at h
    cases h
theorem getD_lt {l : List Nat} (hb : ∀ x ∈ l, x < 256) (k : Nat) : l.getD k 0 < 256 := by
  rw [List.getD_eq_getElem?_getD]
  cases hk : l[k]? with
  | none => simp
  | some x => exact hb x (List.mem_of_getElem? hk)
/-- What is read, and no wrong one, is what was written. -/
theorem enc_dec {l : List Nat} (hne : l ≠ []) (hb : ∀ x ∈ l, x < 256) (h : badR (decL l) = false) : okR (decL l).1 ∧ encN (decL l).1 = l.take (decL l).2 := by
  have hw := dec_width hne
  rw [take4 l _ hw.2.1 hw.2.2]
  exact enc_core _ _ _ _ _ (getD_lt hb 0) (getD_lt hb 1) (getD_lt hb 2) (getD_lt hb 3) h
end Go.Proofs.YtmdnmiiggkfnfaaDoor
