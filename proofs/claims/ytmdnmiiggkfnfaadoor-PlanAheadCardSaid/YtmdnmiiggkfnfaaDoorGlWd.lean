/- The words of a text: plain Lean, and rows of words in memory. -/
import Derived.Test.YtmdnmiiggkfnfaaDoorGlName
import Derived.Test.YtmdnmiiggkfnfaaDoorFlats
import Derived.Test.YtmdnmiiggkfnfaaDoorOnly
set_option linter.unusedVariables false
set_option linter.unusedSimpArgs false
namespace Go.Proofs.YtmdnmiiggkfnfaaDoor
open Go.RowKit

abbrev Wd := ByteArray × Int
def flW : Fl Wd := ⟨2, fun x => [.string x.1, .int .i64 x.2], fun _ => rfl, fun _ u hu => by
  rcases List.mem_cons.1 hu with rfl | hu
  · rfl
  · rw [List.mem_singleton.1 hu]; rfl⟩
def blankR (x : Nat × Nat) : Bool := x.1 == 32 || x.1 == 9
/-- The last word, made longer. -/
def extLast : List Wd → ByteArray → List Wd
  | [], _ => []
  | [x], b => [(x.1 ++ b, x.2)]
  | x :: y :: r, b => x :: extLast (y :: r) b
theorem extLast_snoc (p : List Wd) (x : Wd) (b : ByteArray) : extLast (p ++ [x]) b = p ++ [(x.1 ++ b, x.2)] := by
  induction p with
  | nil => rfl
  | cons y r ih =>
    cases r with
    | nil => rfl
    | cons z r =>
      show y :: extLast (z :: r ++ [x]) b = _
      rw [ih]
      rfl
/-- Words so far, runes so far, within a word? -/
structure St where
  acc : List Wd
  n : Nat
  win : Bool
def stepW (st : St) (x : Nat × Nat) : St :=
  if blankR x then ⟨st.acc, st.n + 1, false⟩
  else if st.win then ⟨extLast st.acc (Utf8.encode x.1), st.n + 1, true⟩
  else ⟨st.acc ++ [((Utf8.encode x.1, (st.n : Int)) : Wd)], st.n + 1, true⟩
def goW (st : St) : List (Nat × Nat) → List Wd × Int
  | [] => (st.acc, -1)
  | x :: t => if badR x then ([], st.n) else goW (stepW st x) t
def wordsL (l : List Nat) : List Wd × Int := goW ⟨[], 0, false⟩ (rn l)
theorem goW_bad {st : St} {x : Nat × Nat} {t : List (Nat × Nat)} (h : badR x = true) : goW st (x :: t) = ([], (st.n : Int)) := by rw [goW, if_pos h]
theorem goW_ok {st : St} {x : Nat × Nat} {t : List (Nat × Nat)} (h : badR x = false) : goW st (x :: t) = goW (stepW st x) t := by rw [goW, if_neg (by rw [h]; decide)]

section
variable {α : Type} {f : Fl α} {w : World} {base : Nat} {e : TypeId} {v : Value} {xs : List α}
theorem Ow.iterAt (h : Ow f w base e v xs) {k : Nat} (hk : k < base) (s : ByteArray) (p : Nat) : Ow f (w.iterAt k s p) base e v xs :=
  h.kept (row := some k) ⟨rfl, rfl, rfl, by rw [Lib.iterAt_size]; exact Nat.le_refl _, fun i _ hne => Lib.iterAt_other w k i s p (fun e => hne (by rw [e]))⟩
    (by
      rcases hv : v.ownBlock with _ | g
      · exact .inl rfl
      · refine .inr (fun e => ?_)
        injection e with e
        have := h.base_ g hv
        omega)
theorem flat_setF (f : Fl α) : ∀ (xs : List α) (k i : Nat) (x x' : α) (u : Value), xs[k]? = some x → i < f.sz → f.enc x' = (f.enc x).set i u → (xs.flatMap f.enc).set (k * f.sz + i) u = (xs.set k x').flatMap f.enc
  | [], k, i, x, x', u, hx, _, _ => by simp at hx
  | y :: r, 0, i, x, x', u, hx, hi, he => by
    simp only [List.getElem?_cons_zero, Option.some.injEq] at hx
    subst hx
    rw [List.flatMap_cons, Nat.zero_mul, Nat.zero_add, List.set_append_left _ _ (by rw [f.len]; exact hi), List.set_cons_zero, List.flatMap_cons, he]
  | y :: r, k + 1, i, x, x', u, hx, hi, he => by
    have e : (k + 1) * f.sz + i = f.sz + (k * f.sz + i) := by rw [Nat.add_mul]; omega
    rw [List.flatMap_cons, List.set_append_right _ _ (by rw [f.len, e]; omega), f.len, e, Nat.add_sub_cancel_left, flat_setF f r k i x x' u (by simpa using hx) hi he, List.set_cons_succ, List.flatMap_cons]
/-- A store into a thing's cell. -/
theorem Ow.putF {g cap : Nat} (h : Ow f w base e (.slice (some ⟨g, 0, none⟩) xs.length cap) xs) (k i : Nat) (x x' : α) (u : Value) (hx : xs[k]? = some x) (hi : i < f.sz) (he : f.enc x' = (f.enc x).set i u) :
    Ow f (w.setCell ⟨g, k * f.sz + i, none⟩ u) base e (.slice (some ⟨g, 0, none⟩) xs.length cap) (xs.set k x') ∧ w.grownBy (w.setCell ⟨g, k * f.sz + i, none⟩ u) (some g) := by
  have := World.ownsRow.stored h (k * f.sz + i) u
  rw [flat_setF f xs k i x x' u hx hi he] at this
  unfold Ow
  rw [List.length_set]
  exact this
end
/-- A store into the last word's text. -/
theorem Ow.putLast {w : World} {base : Nat} {e : TypeId} {g cap : Nat} {p : List Wd} {x : Wd} (h : Ow flW w base e (.slice (some ⟨g, 0, none⟩) (p.length + 1) cap) (p ++ [x])) (t : ByteArray) :
    Ow flW (w.setCell ⟨g, p.length * 2, none⟩ (.string t)) base e (.slice (some ⟨g, 0, none⟩) (p.length + 1) cap) (p ++ [(t, x.2)]) ∧ w.grownBy (w.setCell ⟨g, p.length * 2, none⟩ (.string t)) (some g) := by
  have hl : (p ++ [x]).length = p.length + 1 := by simp
  have h' : Ow flW w base e (.slice (some ⟨g, 0, none⟩) (p ++ [x]).length cap) (p ++ [x]) := by rw [hl]; exact h
  have := h'.putF p.length 0 x (t, x.2) (.string t) (by simp) (by decide) rfl
  rw [hl] at this
  simpa [flW, List.set_append_right] using this
end Go.Proofs.YtmdnmiiggkfnfaaDoor
