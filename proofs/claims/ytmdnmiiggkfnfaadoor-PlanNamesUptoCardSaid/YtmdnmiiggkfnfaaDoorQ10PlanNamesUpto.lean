/- Texts put together for a claim. -/
import Derived.Test.YtmdnmiiggkfnfaaDoorQ9PlanNamesUpto
import Derived.Laws.IdiomStrings
import Derived.Deep.QuietTactic
import Derived.BigQuiet
/- Contracts: Cmp, the program's and the document's. -/
set_option linter.unusedVariables false
set_option linter.unusedSimpArgs false
namespace Go.Proofs.YtmdnmiiggkfnfaaDoor
open Go.RowKit

def cmpI (a b : Int) : Int := if a < b then -1 else if b < a then 1 else 0
def cmpR : List (Nat × Nat) → List (Nat × Nat) → Int
  | [], [] => 0
  | [], _ :: _ => -1
  | _ :: _, [] => 1
  | x :: a, y :: b => if x.1 < y.1 then -1 else if y.1 < x.1 then 1 else cmpR a b
def cmpL (a b : List Nat) : Int := cmpR (rn a) (rn b)
theorem cmpR_nil_left (b : List (Nat × Nat)) : cmpR [] b = cmpI 0 b.length := by
  cases b with
  | nil => rfl
  | cons y b =>
    show (-1 : Int) = _
    unfold cmpI
    rw [if_pos (by simp)]
theorem cmpR_nil_right (a : List (Nat × Nat)) : cmpR a [] = cmpI a.length 0 := by
  cases a with
  | nil => rfl
  | cons y b =>
    show (1 : Int) = _
    unfold cmpI
    rw [if_neg (by simp; omega), if_pos (by simp)]
/-- Runes as whole numbers. -/
theorem runesFrom_rn (s : ByteArray) : ∀ (b i : Nat) (acc : Array Value), s.size ≤ i + b → Conv.runesFrom s b i acc = acc ++ ((rn ((byt s).drop i)).map fun x => Value.int .i32 (x.1 : Int)).toArray
  | 0, i, acc, h => by
    have : (byt s).drop i = [] := List.drop_eq_nil_of_le (by rw [byt_len]; omega)
    rw [this, rn_nil]
    simp [Conv.runesFrom]
  | b + 1, i, acc, h => by
    unfold Conv.runesFrom
    by_cases hi : i < s.size
    · have hne : (byt s).drop i ≠ [] := fun e => by
        have := congrArg List.length e
        rw [List.length_drop, byt_len] at this
        simp at this
        omega
      have hw := dec_width hne
      rw [if_pos hi, decL_at]
      dsimp only
      rw [runesFrom_rn s b _ _ (by omega), rn_cons hne, List.drop_drop]
      simp
    · have : (byt s).drop i = [] := List.drop_eq_nil_of_le (by rw [byt_len]; omega)
      rw [if_neg hi, this, rn_nil]
      simp
def flQ : Fl (Nat × Nat) := ⟨1, fun x => [.int .i32 (x.1 : Int)], fun _ => rfl, fun _ u hu => by rw [List.mem_singleton.1 hu]; rfl⟩
theorem flQ_flat (l : List (Nat × Nat)) : l.flatMap flQ.enc = l.map fun x => Value.int .i32 (x.1 : Int) := by
  induction l with
  | nil => rfl
  | cons x l ih => rw [List.flatMap_cons, List.map_cons, ih]; rfl
theorem rfQ_of {w : World} {g : Nat} {l : List (Nat × Nat)} {pad : Array Value} {t : TypeId} {fr : Nat × Nat} (hb : Blk w g ((l.map fun x => Value.int .i32 (x.1 : Int)).toArray ++ pad) t fr) (hl : l.length ≤ 9223372036854775807) : Rf flQ w (some ⟨g, 0, none⟩) l.length l := by
  refine ⟨rfl, hl, fun _ => ⟨g, 0, rfl, fun j x hx i v hv => ?_⟩⟩
  have hj : j < l.length := (List.getElem?_eq_some_iff.1 hx).1
  cases i with
  | succ i => simp [flQ] at hv
  | zero =>
    have hv' : v = .int .i32 (x.1 : Int) := by simpa [flQ] using hv.symm
    rw [hb.cell]
    have : (0 + j * flQ.sz + 0) = j := by simp [flQ]
    rw [this, Array.getElem?_append_left (by simpa using hj)]
    simp [hx, hv']
end Go.Proofs.YtmdnmiiggkfnfaaDoor

/- Contracts: Cmp, the program's and the document's: the walks. -/
set_option linter.unusedVariables false
set_option linter.unusedSimpArgs false
namespace Go.Proofs.YtmdnmiiggkfnfaaDoor
open Go.RowKit

theorem rfQ_at {w : World} {A : Option Addr} {n : Nat} {xs : List (Nat × Nat)} (h : Rf flQ w A n xs) {j : Nat} (hj : j < n) : ∃ b off r m, A = some ⟨b, off, none⟩ ∧ xs[j]? = some (r, m) ∧ w.cell? ⟨b, off + j, none⟩ = some (.int .i32 (r : Int)) := by
  obtain ⟨b, off, ⟨r, m⟩, rfl, hx, hc⟩ := h.at_ hj
  refine ⟨b, off, r, m, rfl, hx, ?_⟩
  have := hc 0 _ rfl
  simpa [flQ] using this
theorem cmpR_cons {x y : Nat × Nat} {a b : List (Nat × Nat)} : cmpR (x :: a) (y :: b) = if cmpI x.1 y.1 = 0 then cmpR a b else cmpI x.1 y.1 := by
  rw [cmpR]
  unfold cmpI
  by_cases h1 : x.1 < y.1
  · rw [if_pos h1, if_pos (show (x.1 : Int) < y.1 by omega), if_neg (by decide)]
  · rw [if_neg h1, if_neg (show ¬ (x.1 : Int) < y.1 by omega)]
    by_cases h2 : y.1 < x.1
    · rw [if_pos h2, if_pos (show (y.1 : Int) < x.1 by omega), if_neg (by decide)]
    · rw [if_neg h2, if_neg (show ¬ (y.1 : Int) < x.1 by omega), if_pos rfl]
end Go.Proofs.YtmdnmiiggkfnfaaDoor

/- Plain laws of runes: one text behind another; the order. -/
set_option linter.unusedVariables false
set_option linter.unusedSimpArgs false
namespace Go.Proofs.YtmdnmiiggkfnfaaDoor
open Go.Lib (decodeN)

theorem dec_app {l : List Nat} (hne : l ≠ []) (hb : ∀ x ∈ l, x < 256) (h : badR (decL l) = false) (t : List Nat) : decL (l ++ t) = decL l := by
  obtain ⟨h1, h2⟩ := enc_dec hne hb h
  have hw := dec_width hne
  have e1 : l = encN (decL l).1 ++ l.drop (decL l).2 := by rw [h2, List.take_append_drop]
  have hl : (encN (decL l).1).length = (decL l).2 := by rw [h2, List.length_take]; omega
  have e2 := dec_enc (decL l).1 h1 (l.drop (decL l).2 ++ t)
  rw [← List.append_assoc, ← e1, hl] at e2
  exact e2
theorem rn_app_aux : ∀ (n : Nat) (l t : List Nat), l.length ≤ n → (∀ x ∈ l, x < 256) → wholeR (rn l) = true → rn (l ++ t) = rn l ++ rn t
  | 0, l, t, h, _, _ => by
    have : l = [] := List.eq_nil_of_length_eq_zero (by omega)
    subst this
    rfl
  | n + 1, l, t, h, hb, hw => by
    by_cases hne : l = []
    · subst hne; rfl
    · rw [rn_cons hne] at hw ⊢
      have hw1 : badR (decL l) = false ∧ wholeR (rn (l.drop (decL l).2)) = true := by simpa [wholeR] using hw
      have hwd := dec_width hne
      rw [rn_cons (by simp [hne]), dec_app hne hb hw1.1, List.drop_append_of_le_length hwd.2.1, rn_app_aux n _ t (by rw [List.length_drop]; omega) (fun x hx => hb x (List.mem_of_mem_drop hx)) hw1.2]
      rfl
/-- Behind a text without wrong runes stand the other one's. -/
theorem rn_app {l : List Nat} (t : List Nat) (hb : ∀ x ∈ l, x < 256) (hw : wholeR (rn l) = true) : rn (l ++ t) = rn l ++ rn t := rn_app_aux _ l t (Nat.le_refl _) hb hw
theorem byt_app (x y : ByteArray) : byt (x ++ y) = byt x ++ byt y := by
  unfold byt
  rw [ByteArray.data_append, Array.toList_append, List.map_append]
/-- A plain byte ends whatever stands ahead of it. -/
theorem dec_plain {l : List Nat} (hne : l ≠ []) {c : Nat} (hc : c < 128) (t : List Nat) : decL (l ++ c :: t) = decL l := by
  have h2 : ¬ c / 64 = 2 := by omega
  rcases l with _ | ⟨a, _ | ⟨b, _ | ⟨d, _ | ⟨e, r⟩⟩⟩⟩
  · exact absurd rfl hne
  · unfold decL decodeN
    simp [h2]
  · unfold decL decodeN
    simp [h2]
  · unfold decL decodeN
    simp [h2]
  · unfold decL decodeN
    simp
theorem rn_plain_aux : ∀ (n : Nat) (l : List Nat) (c : Nat), l.length ≤ n → c < 128 → rn (l ++ [c]) = rn l ++ [(c, 1)]
  | 0, l, c, h, hc => by
    have : l = [] := List.eq_nil_of_length_eq_zero (by omega)
    subst this
    rw [List.nil_append, rn_nil, rn_cons (by simp)]
    have : decL [c] = (c, 1) := by unfold decL decodeN; simp [hc]
    rw [this]
    rfl
  | n + 1, l, c, h, hc => by
    by_cases hne : l = []
    · subst hne
      exact rn_plain_aux 0 [] c (by simp) hc
    · have hwd := dec_width hne
      rw [rn_cons (l := l ++ [c]) (by simp), rn_cons hne, dec_plain hne hc [], List.drop_append_of_le_length hwd.2.1, rn_plain_aux n _ c (by rw [List.length_drop]; omega) hc]
      rfl
theorem rn_plain (l : List Nat) {c : Nat} (hc : c < 128) : rn (l ++ [c]) = rn l ++ [(c, 1)] := rn_plain_aux _ l c (Nat.le_refl _) hc
/-- A plain byte, and what is behind it. -/
theorem rn_head {c : Nat} (hc : c < 128) (t : List Nat) : rn (c :: t) = (c, 1) :: rn t := by
  have : decL (c :: t) = (c, 1) := by unfold decL decodeN; simp [hc]
  rw [rn_cons (by simp), this]
  rfl
/-- A wrong byte, and what is behind it. -/
theorem rn_ff (t : List Nat) : rn (255 :: t) = (65533, 1) :: rn t := by
  have : decL (255 :: t) = (65533, 1) := by unfold decL decodeN; simp
  rw [rn_cons (by simp), this]
  rfl
/-- A rune that is written, and what is behind it. -/
theorem rn_enc {r : Nat} (h : okR r) (t : List Nat) : rn (encN r ++ t) = (r, (encN r).length) :: rn t := by
  have hl := encN_len r
  have hne : encN r ++ t ≠ [] := fun e => by
    have h0 : (encN r ++ t).length = 0 := by rw [e]; rfl
    rw [List.length_append] at h0
    omega
  rw [rn_cons hne, dec_enc r h t]
  simp
theorem bad_enc {r : Nat} : badR (r, (encN r).length) = false := by
  unfold badR
  by_cases h : r = 65533
  · subst h; rfl
  · simp [h]
/-! ### The order -/
theorem cmpR_range : ∀ a b : List (Nat × Nat), -1 ≤ cmpR a b ∧ cmpR a b ≤ 1
  | [], [] => by simp [cmpR]
  | [], _ :: _ => by simp [cmpR]
  | _ :: _, [] => by simp [cmpR]
  | x :: a, y :: b => by
    rw [cmpR]
    have := cmpR_range a b
    split
    · omega
    · split <;> omega
theorem cmpR_self : ∀ a : List (Nat × Nat), cmpR a a = 0
  | [] => rfl
  | x :: a => by
    rw [cmpR, if_neg (by omega), if_neg (by omega)]
    exact cmpR_self a
theorem cmpR_swap : ∀ a b : List (Nat × Nat), cmpR b a = - cmpR a b
  | [], [] => rfl
  | [], _ :: _ => rfl
  | _ :: _, [] => rfl
  | x :: a, y :: b => by
    rw [cmpR, cmpR]
    by_cases h1 : x.1 < y.1
    · rw [if_neg (by omega), if_pos h1, if_pos h1]; rfl
    · by_cases h2 : y.1 < x.1
      · rw [if_pos h2, if_neg h1, if_pos h2]
      · rw [if_neg h2, if_neg h1, if_neg h1, if_neg h2]
        exact cmpR_swap a b
theorem cmpR_trans : ∀ a b c : List (Nat × Nat), cmpR a b ≤ 0 → cmpR b c ≤ 0 → cmpR a c ≤ 0
  | [], b, c, _, _ => by
    cases c <;> simp [cmpR]
  | x :: a, [], c, h, _ => by simp [cmpR] at h
  | x :: a, y :: b, [], _, h => by simp [cmpR] at h
  | x :: a, y :: b, z :: c, h1, h2 => by
    rw [cmpR] at h1 h2 ⊢
    by_cases e1 : x.1 < y.1
    · by_cases e2 : y.1 < z.1
      · rw [if_pos (by omega)]; decide
      · rw [if_neg e2] at h2
        by_cases e3 : z.1 < y.1
        · rw [if_pos e3] at h2; omega
        · rw [if_pos (by omega)]; decide
    · rw [if_neg e1] at h1
      by_cases e3 : y.1 < x.1
      · rw [if_pos e3] at h1; omega
      · rw [if_neg e3] at h1
        by_cases e2 : y.1 < z.1
        · rw [if_pos (by omega)]; decide
        · rw [if_neg e2] at h2
          by_cases e4 : z.1 < y.1
          · rw [if_pos e4] at h2; omega
          · rw [if_neg e4] at h2
            rw [if_neg (by omega), if_neg (by omega)]
            exact cmpR_trans a b c h1 h2
theorem cmpR_more : ∀ (a : List (Nat × Nat)) (x : Nat × Nat), cmpR a (a ++ [x]) = -1
  | [], _ => rfl
  | y :: a, x => by
    rw [List.cons_append, cmpR, if_neg (by omega), if_neg (by omega)]
    exact cmpR_more a x
/-! ### Names -/
theorem okN_rep {x : Nat × Nat} (hb : badR x = false) (hl : letB x.1 = true) (f : Bool) (r : List (Nat × Nat)) : ∀ n : Nat, okN f (List.replicate n x ++ r) = okN (f && n == 0) r
  | 0 => by simp
  | n + 1 => by
    rw [List.replicate_succ, List.cons_append, okN_let hb hl, okN_rep hb hl false r n]
    simp
theorem rn_rep {r : Nat} (h : okR r) (t : List Nat) : ∀ n : Nat, rn ((List.replicate n (encN r)).flatten ++ t) = List.replicate n (r, (encN r).length) ++ rn t
  | 0 => by simp
  | n + 1 => by
    rw [List.replicate_succ, List.flatten_cons, List.append_assoc, rn_enc h, rn_rep h t n, List.replicate_succ, List.cons_append]
/-! ### Words -/
theorem goW_app : ∀ (xs ys : List (Nat × Nat)) (st : St), wholeR xs = true → goW st (xs ++ ys) = goW (xs.foldl stepW st) ys
  | [], ys, st, _ => rfl
  | x :: xs, ys, st, h => by
    have h1 : badR x = false ∧ wholeR xs = true := by simpa [wholeR] using h
    rw [List.cons_append, goW_ok h1.1, goW_app xs ys _ h1.2]
    rfl
theorem goW_all (xs : List (Nat × Nat)) (st : St) (h : wholeR xs = true) : goW st xs = ((xs.foldl stepW st).acc, -1) := by
  have := goW_app xs [] st h
  rw [List.append_nil] at this
  rw [this]
  rfl
theorem stepW_n (st : St) (x : Nat × Nat) : (stepW st x).n = st.n + 1 := by
  unfold stepW
  split
  · rfl
  · split <;> rfl
theorem fold_n : ∀ (xs : List (Nat × Nat)) (st : St), (xs.foldl stepW st).n = st.n + xs.length
  | [], st => rfl
  | x :: xs, st => by
    rw [List.foldl_cons, fold_n xs, stepW_n, List.length_cons]
    omega
/-- Runes written one behind the other. -/
def encAll : List (Nat × Nat) → ByteArray
  | [] => .empty
  | x :: t => Utf8.encode x.1 ++ encAll t
theorem encAll_rn_aux : ∀ (n : Nat) (l : List Nat), l.length ≤ n → (∀ x ∈ l, x < 256) → wholeR (rn l) = true → byt (encAll (rn l)) = l
  | 0, l, h, _, _ => by
    have : l = [] := List.eq_nil_of_length_eq_zero (by omega)
    subst this
    rfl
  | n + 1, l, h, hb, hw => by
    by_cases hne : l = []
    · subst hne; rfl
    · rw [rn_cons hne] at hw ⊢
      have hw1 : badR (decL l) = false ∧ wholeR (rn (l.drop (decL l).2)) = true := by simpa [wholeR] using hw
      have hwd := dec_width hne
      obtain ⟨h1, h2⟩ := enc_dec hne hb hw1.1
      rw [encAll, byt_app, encAll_rn_aux n _ (by rw [List.length_drop]; omega) (fun x hx => hb x (List.mem_of_mem_drop hx)) hw1.2, byt_encode _ (by omega) (by simpa using h1)]
      rw [Int.toNat_natCast, h2, List.take_append_drop]
theorem encAll_rn (s : ByteArray) (hw : wholeR (rn (byt s)) = true) : encAll (rn (byt s)) = s := byt_inj (encAll_rn_aux _ _ (Nat.le_refl _) (byt_lt s) hw)
/-- Within a word: it grows. -/
theorem fold_word : ∀ (xs : List (Nat × Nat)) (p : List Wd) (t : ByteArray) (a : Int) (n : Nat), (∀ x ∈ xs, blankR x = false) → xs.foldl stepW ⟨p ++ [((t, a) : Wd)], n, true⟩ = ⟨p ++ [((t ++ encAll xs, a) : Wd)], n + xs.length, true⟩
  | [], p, t, a, n, _ => by simp [encAll]
  | x :: xs, p, t, a, n, h => by
    have e : stepW ⟨p ++ [((t, a) : Wd)], n, true⟩ x = ⟨p ++ [((t ++ Utf8.encode x.1, a) : Wd)], n + 1, true⟩ := by
      unfold stepW
      rw [h x List.mem_cons_self]
      show St.mk (extLast _ _) _ _ = _
      rw [extLast_snoc]
    rw [List.foldl_cons, e, fold_word xs p _ a (n + 1) (fun y hy => h y (List.mem_cons_of_mem _ hy)), encAll, ByteArray.append_assoc, List.length_cons]
    congr 1
    omega
/-- A word, from outside one. -/
theorem fold_new (xs : List (Nat × Nat)) (acc : List Wd) (n : Nat) (hne : xs ≠ []) (h : ∀ x ∈ xs, blankR x = false) : xs.foldl stepW ⟨acc, n, false⟩ = ⟨acc ++ [((encAll xs, (n : Int)) : Wd)], n + xs.length, true⟩ := by
  cases xs with
  | nil => exact absurd rfl hne
  | cons x xs =>
    have e : stepW ⟨acc, n, false⟩ x = ⟨acc ++ [((Utf8.encode x.1, (n : Int)) : Wd)], n + 1, true⟩ := by
      unfold stepW
      rw [h x List.mem_cons_self]
      rfl
    rw [List.foldl_cons, e, fold_word xs acc _ _ _ (fun y hy => h y (List.mem_cons_of_mem _ hy)), encAll, List.length_cons]
    congr 1
    omega
theorem stepW_blank (st : St) {x : Nat × Nat} (h : blankR x = true) : stepW st x = ⟨st.acc, st.n + 1, false⟩ := by
  unfold stepW
  rw [h]
  rfl
theorem fold_blanks {x : Nat × Nat} (h : blankR x = true) : ∀ (n : Nat) (acc : List Wd) (k : Nat), (List.replicate n x).foldl stepW ⟨acc, k, false⟩ = ⟨acc, k + n, false⟩
  | 0, _, _ => rfl
  | n + 1, acc, k => by
    rw [List.replicate_succ, List.foldl_cons, stepW_blank _ h, fold_blanks h n]
    congr 1
    simp only
    omega
theorem okN_good : ∀ (f : Bool) (l : List (Nat × Nat)), okN f l = true → ∀ x ∈ l, badR x = false ∧ blankR x = false
  | _, [], _, x, hx => by cases hx
  | f, y :: l, h, x, hx => by
    rw [okN] at h
    simp only [Bool.and_eq_true, Bool.not_eq_true'] at h
    rcases List.mem_cons.1 hx with rfl | hx
    · refine ⟨h.1.1, ?_⟩
      have h2 := h.1.2
      unfold blankR
      unfold letB digB at h2
      simp at h2 ⊢
      omega
    · exact okN_good false l h.2 x hx
theorem name_whole {l : List Nat} (h : nameL l = true) : wholeR (rn l) = true ∧ (∀ x ∈ rn l, blankR x = false) ∧ rn l ≠ [] ∧ (rn l).length ≤ 8 := by
  unfold nameL nameR at h
  simp only [Bool.and_eq_true, decide_eq_true_eq] at h
  have hg := okN_good true _ h.1
  refine ⟨?_, fun x hx => (hg x hx).2, fun e => ?_, h.2.2⟩
  · unfold wholeR
    rw [List.all_eq_true]
    intro x hx
    rw [(hg x hx).1]
    rfl
  · rw [e] at h
    simp at h
end Go.Proofs.YtmdnmiiggkfnfaaDoor
