/- Texts put together for a claim. -/
import Derived.Test.YtmdnmiiggkfnfaaDoorQ3PlanNamesUpto
import Derived.Test.YtmdnmiiggkfnfaaDoorQ8PlanNamesUpto
/- The words of a text: plain Lean, and rows of words in memory. -/
set_option linter.unusedVariables false
set_option linter.unusedSimpArgs false
namespace Go.Proofs.YtmdnmiiggkfnfaaDoor
open Go.RowKit

abbrev Wd := ByteArray × Int
def flW : Fl Wd := ⟨2, fun x => [.string x.1, .int .i64 x.2], fun _ => rfl, fun _ u hu => by
  rcases List.mem_cons.1 hu with rfl | hu
  · rfl
  · rw [List.mem_singleton.1 hu]; rfl⟩
def blankR (x : Nat × Nat) : Bool := x.1 == 32 || x.1 == 9
/-- The last word, made longer. -/
def extLast : List Wd → ByteArray → List Wd
  | [], _ => []
  | [x], b => [(x.1 ++ b, x.2)]
  | x :: y :: r, b => x :: extLast (y :: r) b
theorem extLast_snoc (p : List Wd) (x : Wd) (b : ByteArray) : extLast (p ++ [x]) b = p ++ [(x.1 ++ b, x.2)] := by
  induction p with
  | nil => rfl
  | cons y r ih =>
    cases r with
    | nil => rfl
    | cons z r =>
      show y :: extLast (z :: r ++ [x]) b = _
      rw [ih]
      rfl
/-- Words so far, runes so far, within a word? -/
structure St where
  acc : List Wd
  n : Nat
  win : Bool
def stepW (st : St) (x : Nat × Nat) : St :=
  if blankR x then ⟨st.acc, st.n + 1, false⟩
  else if st.win then ⟨extLast st.acc (Utf8.encode x.1), st.n + 1, true⟩
  else ⟨st.acc ++ [((Utf8.encode x.1, (st.n : Int)) : Wd)], st.n + 1, true⟩
def goW (st : St) : List (Nat × Nat) → List Wd × Int
  | [] => (st.acc, -1)
  | x :: t => if badR x then ([], st.n) else goW (stepW st x) t
def wordsL (l : List Nat) : List Wd × Int := goW ⟨[], 0, false⟩ (rn l)
theorem goW_bad {st : St} {x : Nat × Nat} {t : List (Nat × Nat)} (h : badR x = true) : goW st (x :: t) = ([], (st.n : Int)) := by rw [goW, if_pos h]
theorem goW_ok {st : St} {x : Nat × Nat} {t : List (Nat × Nat)} (h : badR x = false) : goW st (x :: t) = goW (stepW st x) t := by rw [goW, if_neg (by rw [h]; decide)]

section
variable {α : Type} {f : Fl α} {w : World} {base : Nat} {e : TypeId} {v : Value} {xs : List α}
theorem Ow.iterAt (h : Ow f w base e v xs) {k : Nat} (hk : k < base) (s : ByteArray) (p : Nat) : Ow f (w.iterAt k s p) base e v xs :=
  h.kept (row := some k) ⟨rfl, rfl, rfl, by rw [Lib.iterAt_size]; exact Nat.le_refl _, fun i _ hne => Lib.iterAt_other w k i s p (fun e => hne (by rw [e]))⟩
    (by
      rcases hv : v.ownBlock with _ | g
      · exact .inl rfl
      · refine .inr (fun e => ?_)
        injection e with e
        have := h.base_ g hv
        omega)
theorem flat_setF (f : Fl α) : ∀ (xs : List α) (k i : Nat) (x x' : α) (u : Value), xs[k]? = some x → i < f.sz → f.enc x' = (f.enc x).set i u → (xs.flatMap f.enc).set (k * f.sz + i) u = (xs.set k x').flatMap f.enc
  | [], k, i, x, x', u, hx, _, _ => by simp at hx
  | y :: r, 0, i, x, x', u, hx, hi, he => by
    simp only [List.getElem?_cons_zero, Option.some.injEq] at hx
    subst hx
    rw [List.flatMap_cons, Nat.zero_mul, Nat.zero_add, List.set_append_left _ _ (by rw [f.len]; exact hi), List.set_cons_zero, List.flatMap_cons, he]
  | y :: r, k + 1, i, x, x', u, hx, hi, he => by
    have e : (k + 1) * f.sz + i = f.sz + (k * f.sz + i) := by rw [Nat.add_mul]; omega
    rw [List.flatMap_cons, List.set_append_right _ _ (by rw [f.len, e]; omega), f.len, e, Nat.add_sub_cancel_left, flat_setF f r k i x x' u (by simpa using hx) hi he, List.set_cons_succ, List.flatMap_cons]
/-- A store into a thing's cell. -/
theorem Ow.putF {g cap : Nat} (h : Ow f w base e (.slice (some ⟨g, 0, none⟩) xs.length cap) xs) (k i : Nat) (x x' : α) (u : Value) (hx : xs[k]? = some x) (hi : i < f.sz) (he : f.enc x' = (f.enc x).set i u) :
    Ow f (w.setCell ⟨g, k * f.sz + i, none⟩ u) base e (.slice (some ⟨g, 0, none⟩) xs.length cap) (xs.set k x') ∧ w.grownBy (w.setCell ⟨g, k * f.sz + i, none⟩ u) (some g) := by
  have := World.ownsRow.stored h (k * f.sz + i) u
  rw [flat_setF f xs k i x x' u hx hi he] at this
  unfold Ow
  rw [List.length_set]
  exact this
end
/-- A store into the last word's text. -/
theorem Ow.putLast {w : World} {base : Nat} {e : TypeId} {g cap : Nat} {p : List Wd} {x : Wd} (h : Ow flW w base e (.slice (some ⟨g, 0, none⟩) (p.length + 1) cap) (p ++ [x])) (t : ByteArray) :
    Ow flW (w.setCell ⟨g, p.length * 2, none⟩ (.string t)) base e (.slice (some ⟨g, 0, none⟩) (p.length + 1) cap) (p ++ [(t, x.2)]) ∧ w.grownBy (w.setCell ⟨g, p.length * 2, none⟩ (.string t)) (some g) := by
  have hl : (p ++ [x]).length = p.length + 1 := by simp
  have h' : Ow flW w base e (.slice (some ⟨g, 0, none⟩) (p ++ [x]).length cap) (p ++ [x]) := by rw [hl]; exact h
  have := h'.putF p.length 0 x (t, x.2) (.string t) (by simp) (by decide) rfl
  rw [hl] at this
  simpa [flW, List.set_append_right] using this
end Go.Proofs.YtmdnmiiggkfnfaaDoor

/- Contract: Words, the program's. -/
set_option linter.unusedVariables false
set_option linter.unusedSimpArgs false
namespace Go.Proofs.YtmdnmiiggkfnfaaDoor
open Go.RowKit

theorem info_w : (Tryd.prog.info? 97).map (fun i => (i.zero, i.size, i.bytes)) = some (some (.agg #[.string .empty, .int .i64 0]), 2, 24) := by kernel_rfl
def WordsPost (w : World) (l : List Nat) (e : Ending) (w' : World) : Prop :=
  ∃ v, e = .returned (.tuple #[v, .int .i64 (wordsL l).2]) ∧ Ow flW w' w.heap.size 97 v (wordsL l).1 ∧ Below w.heap.size w w'
theorem box_w (W : World) (t : ByteArray) (n : Int) : Reads (W.alloc (.cells #[.string t, .int .i64 n] 97)) (W.heap.size + 1) 2 (some ⟨W.heap.size, 0, none⟩) 1 (flW.enc ((t, n) : Wd)) := box_reads flW W _ _ ((t, n) : Wd) rfl
theorem encode_le (r : Int) : (Utf8.encode r).size ≤ 4 := by
  unfold Utf8.encode
  simp only
  repeat' split
  all_goals simp [ByteArray.size]
theorem blank_cases (r n : Nat) : blankR (r, n) = true ∧ (((r : Int) == 32) = true ∨ (((r : Int) == 32) = false ∧ ((r : Int) == 9) = true)) ∨ blankR (r, n) = false ∧ ((r : Int) == 32) = false ∧ ((r : Int) == 9) = false := by
  unfold blankR
  by_cases h1 : r = 32
  · subst h1; simp
  · by_cases h2 : r = 9
    · subst h2; simp
    · right
      simp
      omega
/-- What a round keeps. -/
structure Rnd (w wr : World) (s : ByteArray) (pos : Nat) (v : Value) (st : St) : Prop where
  it : wr.heap[w.heap.size]? = some (.stringIter s pos)
  bel : Below w.heap.size w wr
  own : Ow flW wr (w.heap.size + 1) 97 v st.acc
  eq : goW st (rn ((byt s).drop pos)) = wordsL (byt s)
  win : st.win = true → st.acc ≠ []
  len : st.acc.length ≤ st.n
  np : st.n ≤ pos
  sz : ∀ x ∈ st.acc, x.1.size ≤ 4 * pos
section
variable {w w2 w3 : World} {s : ByteArray} {pos n : Nat} {v : Value} {st : St}
theorem Rnd.meas {p : Nat} {wr : World} (h : w2.heap[w.heap.size]? = some (.stringIter s p)) (h0 : wr.heap[w.heap.size]? = some (.stringIter s pos)) (hp : pos < s.size) (hlt : pos < p) : s.size - w2.iterPos w.heap.size < s.size - wr.iterPos w.heap.size := by
  unfold World.iterPos
  rw [h, h0]
  dsimp only
  omega
end
theorem put_keep {w w2 w3 w4 : World} {B g : Nat} {ob : Obj} (hb3 : Below w2.heap.size w2 w3) (hg : w3.grownBy w4 (some g)) (hrow : B + 1 ≤ g) (hlt : B < w2.heap.size) (h : w2.heap[B]? = some ob) (hb : Below B w w2) :
    w4.heap[B]? = some ob ∧ Below B w w4 := by
  have h3 := hb3.size
  refine ⟨(hg.block B (by omega) (fun e => by injection e with e; omega)).trans ((hb3.block B hlt).trans h), ?_⟩
  have h1 : Below B w w3 := hb.trans (hb3.mono (by omega))
  exact h1.grown hg (by omega) (fun k hk => by injection hk with hk; omega)
theorem last_cell {w : World} {base : Nat} {e : TypeId} {g cap : Nat} {p : List Wd} {x : Wd} (h : Ow flW w base e (.slice (some ⟨g, 0, none⟩) (p.length + 1) cap) (p ++ [x])) :
    w.cell? ⟨g, p.length * 2, none⟩ = some (.string x.1) ∧ w.frozen? ⟨g, p.length * 2, none⟩ = false := by
  have hl : (p ++ [x]).length = p.length + 1 := by simp
  have h' : Ow flW w base e (.slice (some ⟨g, 0, none⟩) (p ++ [x]).length cap) (p ++ [x]) := by rw [hl]; exact h
  exact ⟨h'.cell1 (j := p.length) (i := 0) (x := x) (by simp) (by decide) rfl, h'.free _⟩
theorem app_keep {w w2 w3 w4 : World} {B : Nat} {o ob : Obj} {row : Option Nat} (hb3 : Below w2.heap.size w2 w3) (hg : (w3.alloc o).grownBy w4 row) (hrow : ∀ k, row = some k → B + 1 ≤ k) (hlt : B < w2.heap.size) (h : w2.heap[B]? = some ob) (hb : Below B w w2) :
    w4.heap[B]? = some ob ∧ Below B w w4 := by
  have h3 := hb3.size
  refine ⟨(hg.block B (by simp; omega) (fun e => by have := hrow B e.symm; omega)).trans ((Below.heap_alloc w3 o B (by omega)).trans ((hb3.block B hlt).trans h)), ?_⟩
  have h1 : Below B w (w3.alloc o) := (hb.trans (hb3.mono (by omega))).alloc (by omega) o
  exact h1.grown hg (by simp; omega) (fun k hk => by have := hrow k hk; omega)
theorem ext_size {acc : List Wd} {n p q : Nat} {N : Int} {t : ByteArray} (ht : t.size ≤ 4) (h : ∀ y ∈ acc, y.1.size ≤ 4 * p) (hpq : p + n ≤ q) (h1 : 1 ≤ n) : ∀ y ∈ acc ++ [((t, N) : Wd)], y.1.size ≤ 4 * q := by
  intro y hy
  rcases List.mem_append.1 hy with h' | h'
  · have := h y h'; omega
  · rw [List.mem_singleton.1 h']
    show t.size ≤ _
    omega
theorem last_size {acc : List Wd} {n p q : Nat} {N : Int} {t u : ByteArray} (ht : t.size ≤ 4) (h : ∀ y ∈ acc ++ [((u, N) : Wd)], y.1.size ≤ 4 * p) (hpq : p + n ≤ q) (h1 : 1 ≤ n) : ∀ y ∈ acc ++ [((u ++ t, N) : Wd)], y.1.size ≤ 4 * q := by
  intro y hy
  rcases List.mem_append.1 hy with h' | h'
  · have := h y (List.mem_append_left _ h'); omega
  · rw [List.mem_singleton.1 h']
    have hu := h (u, N) (by simp)
    show (u ++ t).size ≤ _
    rw [ByteArray.size_append]
    dsimp only at hu
    omega
set_option maxRecDepth 100000 in
set_option maxRecDepth 20000 in
set_option maxHeartbeats 4000000 in
theorem Words_calls (w : World) (hT : Tabs w) (s : ByteArray) (hs : s.size ≤ 1000000) :
    Calls Tryd.prog 46 #[.string s] w (WordsPost w (byt s)) := by
  obtain ⟨i0, hi0, hz0, hz1, hz2⟩ := info_parts info_w
  have HL := Lib.hid (byt_len s)
  have HT := Lib.hid hT
  clear hT
  go_enter Tryd.func46, Tryd.ntmps46
  go_wp2_with fail
  go_loopw [4, 5, 6] (fun l n win wr => ∃ (pos : Nat) (st : St), n = .int .i64 st.n ∧ win = .bool st.win ∧ Hid (Rnd w wr s pos l st) ∧ pos ≤ s.size) (fun _ _ _ wr => s.size - wr.iterPos w.heap.size)
  case atStart => exact ⟨0, ⟨[], 0, false⟩, rfl, rfl, Lib.hid ⟨World.iter_heap w s 0, below_iter (Nat.le_refl _) _ _, Ow.nil_ _ _ _ _, by simp [wordsL], by simp, by simp, by simp, by simp⟩, by omega⟩
  case round =>
    obtain ⟨pos, ⟨acc, nn, win⟩, rfl, rfl, hR, hp0⟩ := hrel
    by_cases hp : pos < s.size
    · have hne : (byt s).drop pos ≠ [] := fun e => by
        have := congrArg List.length e
        rw [List.length_drop, HL.out] at this
        simp at this
        omega
      have hnx : ∀ ty, (Instr.next (.pointer (some ⟨w.heap.size, 0, none⟩)) true ty).run Tryd.prog wr = _ := fun ty => Lib.run_next_any_at wr w.heap.size s pos ty hR.out.it hp
      simp only [decL_at] at hnx
      have hwd := dec_width hne
      have hk : pos + (decL ((byt s).drop pos)).2 ≤ s.size := by
        have := hwd.2.1
        rw [List.length_drop, HL.out] at this
        omega
      have hit2 := Lib.hid (Lib.iterAt_heap wr w.heap.size s pos (pos + (decL ((byt s).drop pos)).2) hR.out.it)
      have hbw2 := Lib.hid (Lib.below_iterAt hR.out.bel (k := w.heap.size) (Nat.le_refl _) s (pos + (decL ((byt s).drop pos)).2))
      have how2 := Lib.hid (hR.out.own.iterAt (k := w.heap.size) (by omega) s (pos + (decL ((byt s).drop pos)).2))
      have hlt2 : w.heap.size < (wr.iterAt w.heap.size s (pos + (decL ((byt s).drop pos)).2)).heap.size := (Array.getElem?_eq_some_iff.1 hit2.out).1
      have K := isWrong_calls _ (HT.out.stay hbw2.out) s (by omega) pos hp
      have hc2 := hR.out.eq
      rw [rn_cons hne, List.drop_drop] at hc2
      have HC := Lib.hid hc2
      have h1 := hwd.1
      clear hne hwd hc2
      generalize wr.iterAt w.heap.size s (pos + (decL ((byt s).drop pos)).2) = w2 at *
      generalize decL ((byt s).drop pos) = x at *
      obtain ⟨r, n⟩ := x
      dsimp only at hnx hk h1 HC K hit2
      have HN := Lib.hid (show acc.length ≤ nn ∧ nn ≤ pos from ⟨hR.out.len, hR.out.np⟩)
      have hnn : nn ≤ pos := hR.out.np
      have hal : acc.length ≤ nn := hR.out.len
      cases hbad : badR (r, n) with
      | true =>
        rw [hbad] at K
        have HF := Lib.hid (show wordsL (byt s) = ([], (nn : Int)) by
          rw [← HC.out, goW_bad hbad])
        clear hbad
        go_wp2_with (go_at_call 55; refine K.mono ?_; rintro e w3 ⟨rfl, hb3⟩)
        go_ret2
        exact ⟨.slice none 0 0, by rw [HF.out]; exact rfl, by rw [HF.out]; exact Ow.nil_ _ _ _ _, hbw2.out.trans (hb3.mono (by omega))⟩
      | false =>
        rw [hbad] at K
        have HQ := Lib.hid (HC.out.symm.trans (goW_ok hbad))
        clear hbad
        rcases blank_cases r n with ⟨hbl, hb⟩ | ⟨hbl, b1, b2⟩
        · have HE := Lib.hid (show stepW ⟨acc, nn, win⟩ (r, n) = ⟨acc, nn + 1, false⟩ by unfold stepW; rw [hbl]; rfl)
          clear hbl
          rcases hb with b1 | ⟨b1, b2⟩
          all_goals
            go_wp2_with (go_at_call 55; refine K.mono ?_; rintro e w3 ⟨rfl, hb3⟩)
            go_roundw
            case rel =>
              exact ⟨pos + n, ⟨acc, nn + 1, false⟩, by go_num, rfl, Lib.hid ⟨(hb3.block w.heap.size hlt2).trans hit2.out, hbw2.out.trans (hb3.mono (by omega)), how2.out.stay hb3, by rw [← HE.out]; exact HQ.out.symm, by simp, by have := HN.out; dsimp only; omega, by have := HN.out; dsimp only; omega, fun y hy => by have := hR.out.sz y hy; omega⟩, hk⟩
            case measure => exact Rnd.meas ((hb3.block w.heap.size hlt2).trans hit2.out) hR.out.it hp (by omega)
        · cases win with
          | false =>
            have HE := Lib.hid (show stepW ⟨acc, nn, false⟩ (r, n) = ⟨acc ++ [((Utf8.encode (r : Int), (nn : Int)) : Wd)], nn + 1, true⟩ by unfold stepW; rw [hbl]; rfl)
            have HBX := Lib.hid (fun W => box_w W (Utf8.encode (r : Int)) (nn : Int))
            clear hbl
            go_wp2_with (first
              | (go_at_call 55; refine K.mono ?_; rintro e w3 ⟨rfl, hb3⟩; have HB3 := Lib.hid hb3; clear hb3)
              | (at_builtin; refine wpList_append_any _ rfl (.tmp 33) (.tmp 38) _ rfl (w.heap.size + 1) 97 i0 _ 2 24 Tryd.underlying78 hi0 hz0 hz1 hz2 rfl (by omega) _ acc.length (acc.flatMap flW.enc) rfl ((how2.out.stay HB3.out).alloc _) _ (some ⟨w3.heap.size, 0, none⟩) 1 1 (flW.enc ((Utf8.encode (r : Int), (nn : Int)) : Wd)) rfl (HBX.out w3) (flW.one _) (by simp only [maxLen]; omega) (by omega) (by have := HB3.out.size; simp; omega) ?_; intro v4 w4 hown4 hg4 hat4; have HO4 := Lib.hid hown4; have HG4 := Lib.hid hg4; clear hown4 hg4 hat4))
            go_roundw
            case rel =>
              have hk4 := app_keep HB3.out HG4.out (fun k hk => how2.out.base_ k hk) hlt2 hit2.out hbw2.out
              exact ⟨pos + n, ⟨acc ++ [((Utf8.encode (r : Int), (nn : Int)) : Wd)], nn + 1, true⟩, by go_num, rfl, Lib.hid ⟨hk4.1, hk4.2, Ow.snoc HO4.out, by rw [← HE.out]; exact HQ.out.symm, by simp, by have := HN.out; simp; omega, by dsimp only; omega, ext_size (encode_le _) hR.out.sz (Nat.le_refl _) h1⟩, hk⟩
            case measure =>
              have hk4 := app_keep HB3.out HG4.out (fun k hk => how2.out.base_ k hk) hlt2 hit2.out hbw2.out
              exact Rnd.meas hk4.1 hR.out.it hp (by omega)
          | true =>
            obtain ⟨p, ⟨t, a⟩, rfl⟩ : ∃ p x, acc = p ++ [x] := ⟨_, _, (List.dropLast_concat_getLast (hR.out.win rfl)).symm⟩
            have HE := Lib.hid (show stepW ⟨p ++ [(t, a)], nn, true⟩ (r, n) = ⟨p ++ [((t ++ Utf8.encode (r : Int), a) : Wd)], nn + 1, true⟩ by unfold stepW; rw [hbl]; show St.mk (extLast _ _) _ _ = _; rw [extLast_snoc])
            have hts : t.size ≤ 4 * pos := hR.out.sz (t, a) (by simp)
            have hz1 : (t.size : Int) ≤ 8388608 := by omega
            have hz2 : ((Utf8.encode (r : Int)).size : Int) ≤ 8388608 := by have := encode_le (r : Int); omega
            obtain ⟨g, cap, hv, hg1, hg2⟩ := how2.out.form (by simp)
            rw [List.length_append, List.length_singleton] at hv hal
            subst hv
            clear hbl hts
            go_wp2_with (go_at_call 55; refine K.mono ?_; rintro e w3 ⟨rfl, hb3⟩; have HO3 := Lib.hid (show Ow flW w3 (w.heap.size + 1) 97 (.slice (some ⟨g, 0, none⟩) (p.length + 1) cap) (p ++ [((t, a) : Wd)]) from how2.out.stay hb3); obtain ⟨c0, f0⟩ := last_cell HO3.out; have hs3 := hb3.size; have HB3 := Lib.hid hb3; clear hb3)
            go_roundw
            case rel =>
              obtain ⟨o1, o2⟩ := Ow.putLast HO3.out (t ++ Utf8.encode (r : Int))
              have hk4 := put_keep HB3.out o2 hg1 hlt2 hit2.out hbw2.out
              exact ⟨pos + n, ⟨p ++ [((t ++ Utf8.encode (r : Int), a) : Wd)], nn + 1, true⟩, by go_num, rfl, Lib.hid ⟨hk4.1, hk4.2, o1, by rw [← HE.out]; exact HQ.out.symm, by simp, by simp; omega, by dsimp only; omega, last_size (encode_le _) hR.out.sz (Nat.le_refl _) h1⟩, hk⟩
            case measure =>
              obtain ⟨o1, o2⟩ := Ow.putLast HO3.out (t ++ Utf8.encode (r : Int))
              have hk4 := put_keep HB3.out o2 hg1 hlt2 hit2.out hbw2.out
              exact Rnd.meas hk4.1 hR.out.it hp (by omega)
    · have hnx : ∀ ty, (Instr.next (.pointer (some ⟨w.heap.size, 0, none⟩)) true ty).run Tryd.prog wr = _ := fun ty => Lib.run_next_end_at wr w.heap.size s pos ty hR.out.it hp
      have he : (byt s).drop pos = [] := List.drop_eq_nil_of_le (by rw [HL.out]; omega)
      have hc2 := hR.out.eq
      rw [he, rn_nil] at hc2
      have HF := Lib.hid (show wordsL (byt s) = (acc, -1) from hc2.symm)
      clear he hc2
      go_wp2_with fail
      go_ret2
      exact ⟨_, by rw [HF.out]; exact rfl, by rw [HF.out]; exact hR.out.own.lower (by omega), hR.out.bel⟩
end Go.Proofs.YtmdnmiiggkfnfaaDoor

/- Contracts of the document's Runes, IsName; of the law's whole. -/
set_option linter.unusedVariables false
set_option linter.unusedSimpArgs false
namespace Go.Proofs.YtmdnmiiggkfnfaaDoor
open Go.RowKit

/-- A rune in memory: its number, its bytes, whether it is a wrong one. -/
def flRn : Fl (Nat × Nat) := ⟨3, fun x => [.int .i32 (x.1 : Int), .int .i64 (x.2 : Int), .bool (badR x)], fun _ => rfl, fun x u hu => by
  rcases List.mem_cons.1 hu with rfl | hu
  · rfl
  · rcases List.mem_cons.1 hu with rfl | hu
    · rfl
    · rw [List.mem_singleton.1 hu]; rfl⟩
theorem info_r : (Tryd.prog.info? 70).map (fun i => (i.zero, i.size, i.bytes)) = some (some (.agg #[.int .i32 0, .int .i64 0, .bool false]), 3, 24) := by kernel_rfl
theorem box_r (W : World) (r n : Nat) : Reads (W.alloc (.cells #[.int .i32 (r : Int), .int .i64 (n : Int), .bool (badR (r, n))] 70)) (W.heap.size + 1) 3 (some ⟨W.heap.size, 0, none⟩) 1 (flRn.enc (r, n)) := box_reads flRn W _ _ (r, n) rfl
/-- The second law of the box: with the flag as it was reckoned. -/
theorem box_rb (W : World) (r n : Nat) (b : Bool) (h : badR (r, n) = b) : Reads (W.alloc (.cells #[.int .i32 (r : Int), .int .i64 (n : Int), .bool b] 70)) (W.heap.size + 1) 3 (some ⟨W.heap.size, 0, none⟩) 1 (flRn.enc (r, n)) := by
  subst h
  exact box_r W r n
def RunesPost (w : World) (l : List Nat) (e : Ending) (w' : World) : Prop :=
  ∃ v, e = .returned v ∧ Ow flRn w' w.heap.size 70 v (rn l) ∧ Below w.heap.size w w'
theorem bad_cases (r n : Nat) : (badR (r, n) = false ∧ ((r : Int) == 65533) = false) ∨ (badR (r, n) = false ∧ ((r : Int) == 65533) = true ∧ ((n : Int) == 1) = false) ∨ (badR (r, n) = true ∧ ((r : Int) == 65533) = true ∧ ((n : Int) == 1) = true) := by
  unfold badR
  by_cases h1 : r = 65533
  · by_cases h2 : n = 1
    · right; right; subst h1 h2; simp
    · right; left; subst h1; simp; omega
  · left
    simp
    omega
set_option maxRecDepth 100000 in
set_option maxRecDepth 20000 in
set_option maxHeartbeats 4000000 in
theorem Runes_calls (w : World) (hT : Tabs w) (s : ByteArray) (hs : s.size ≤ 4000000) :
    Calls Tryd.prog 35 #[.string s] w (RunesPost w (byt s)) := by
  obtain ⟨i0, hi0, hz0, hz1, hz2⟩ := info_parts info_r
  have HL := Lib.hid (byt_len s)
  have HT := Lib.hid hT
  clear hT
  go_enter Tryd.func35, Tryd.ntmps35
  go_wp2_with fail
  go_loopw [3, 4] (fun l i wr => ∃ (pos : Nat) (acc : List (Nat × Nat)), i = .int .i64 pos ∧ Hid (Ow flRn wr w.heap.size 70 l acc ∧ Below w.heap.size w wr ∧ acc ++ rn ((byt s).drop pos) = rn (byt s)) ∧ acc.length ≤ pos ∧ pos ≤ s.size) (fun _ i _ => s.size - (intOf i).toNat)
  case atStart => exact ⟨0, [], rfl, Lib.hid ⟨Ow.nil_ _ _ _ _, Below.refl _ _, rfl⟩, by simp, by omega⟩
  case round =>
    obtain ⟨pos, acc, rfl, hR, hal, hp0⟩ := hrel
    by_cases hp : pos < s.size
    · have hne : (byt s).drop pos ≠ [] := fun e => by
        have := congrArg List.length e
        rw [List.length_drop, HL.out] at this
        simp at this
        omega
      have hwd := dec_width hne
      have hk : pos + (decL ((byt s).drop pos)).2 ≤ s.size := by
        have := hwd.2.1
        rw [List.length_drop, HL.out] at this
        omega
      have K := Lib.hid (dec_calls wr (HT.out.stay hR.out.2.1) s pos hp)
      have hc2 := hR.out.2.2
      rw [rn_cons hne, List.drop_drop] at hc2
      have HC := Lib.hid hc2
      have h1 := hwd.1
      have hpi : (pos : Int) < (s.size : Int) := by omega
      have hpl : (pos : Int) ≤ (s.size : Int) := by omega
      clear hne hwd hc2
      generalize decL ((byt s).drop pos) = x at *
      obtain ⟨r, n⟩ := x
      dsimp only at hk h1 HC K
      rcases bad_cases r n with ⟨hb, b1⟩ | ⟨hb, b1, b2⟩ | ⟨hb, b1, b2⟩
      all_goals
        have HBX := Lib.hid (fun W => box_rb W r n _ hb)
        clear hb
        go_wp2_with (first
          | (go_at_call 51; refine K.out.mono ?_; rintro e w3 ⟨rfl, hb3⟩; have HB3 := Lib.hid hb3; have HO3 := Lib.hid (hR.out.1.stay hb3); clear hb3)
          | (at_builtin; refine wpList_append_any _ rfl (.tmp 18) (.tmp 28) _ rfl w.heap.size 70 i0 _ 3 24 Tryd.underlying67 hi0 hz0 hz1 hz2 rfl (by omega) _ acc.length (acc.flatMap flRn.enc) rfl (HO3.out.alloc _) _ (some ⟨w3.heap.size, 0, none⟩) 1 1 (flRn.enc (r, n)) rfl (HBX.out w3) (flRn.one _) (by simp only [maxLen]; omega) (by omega) (by have := hR.out.2.1.size; have := HB3.out.size; simp; omega) ?_; intro v4 w4 hown4 hg4 hat4; have HO4 := Lib.hid hown4; have HG4 := Lib.hid hg4; clear hown4 hg4 hat4))
        go_roundw
        case rel =>
          exact ⟨pos + n, acc ++ [(r, n)], by go_num, Lib.hid ⟨Ow.snoc HO4.out, grown_below (((hR.out.2.1.trans (HB3.out.mono hR.out.2.1.size))).alloc (by have := hR.out.2.1.size; have := HB3.out.size; omega) _) (by have := hR.out.2.1.size; have := HB3.out.size; simp; omega) HG4.out (hR.out.1.base_), by rw [← HC.out]; simp⟩, by simp; omega, hk⟩
        case measure => simp [intOf]; omega
    · have he : (byt s).drop pos = [] := List.drop_eq_nil_of_le (by rw [HL.out]; omega)
      have hc2 := hR.out.2.2
      rw [he, rn_nil, List.append_nil] at hc2
      have HF := Lib.hid hc2
      clear he hc2
      go_wp2_with fail
      go_ret
      exact ⟨_, rfl, by rw [← HF.out]; exact hR.out.1, hR.out.2.1⟩
end Go.Proofs.YtmdnmiiggkfnfaaDoor

/- Contracts of the document's IsName; of the law's whole. -/
set_option linter.unusedVariables false
set_option linter.unusedSimpArgs false
namespace Go.Proofs.YtmdnmiiggkfnfaaDoor
open Go.RowKit

theorem rfR_at {w : World} {A : Option Addr} {n : Nat} {xs : List (Nat × Nat)} (h : Rf flRn w A n xs) {j : Nat} (hj : j < n) :
    ∃ b off r m, A = some ⟨b, off, none⟩ ∧ xs[j]? = some (r, m) ∧ w.cell? ⟨b, off + j * 3, none⟩ = some (.int .i32 (r : Int)) ∧ w.cell? ⟨b, off + j * 3 + 1, none⟩ = some (.int .i64 (m : Int)) ∧ w.cell? ⟨b, off + j * 3 + 2, none⟩ = some (.bool (badR (r, m))) := by
  obtain ⟨b, off, ⟨r, m⟩, rfl, hx, hc⟩ := h.at_ hj
  exact ⟨b, off, r, m, rfl, hx, hc 0 _ rfl, hc 1 _ rfl, hc 2 _ rfl⟩
theorem drop_at {α : Type} {xs : List α} {j : Nat} {x : α} (h : xs[j]? = some x) : xs.drop j = x :: xs.drop (j + 1) := by
  obtain ⟨hl, rfl⟩ := List.getElem?_eq_some_iff.1 h
  exact List.drop_eq_getElem_cons hl
set_option maxRecDepth 20000 in
set_option maxHeartbeats 4000000 in
theorem RefIsName_calls (w : World) (hT : Tabs w) (s : ByteArray) (hs : s.size ≤ 4000000) :
    Calls Tryd.prog 20 #[.string s] w fun e w' => e = .returned (.bool (nameL (byt s))) ∧ Below w.heap.size w w' := by
  have HK : Hid (Calls Tryd.prog 35 #[.string s] w fun e w' => ∃ v, e = .returned v ∧ Ow flRn w' w.heap.size 70 v (rn (byt s)) ∧ Below w.heap.size w w') := Lib.hid (Runes_calls w hT s hs)
  have hle := Nat.le_trans (rn_len (byt s)) (Nat.le_of_eq (byt_len s))
  unfold nameL
  generalize rn (byt s) = l at *
  clear hT
  go_enter Tryd.func20, Tryd.ntmps20
  go_wp2_with fail
  refine HK.out.mono ?_
  rintro e w1 ⟨v, rfl, ho, hb1⟩
  obtain ⟨A, c, rfl, hA⟩ := ho.read (by decide)
  have HA := Lib.hid hA
  have HB1 := Lib.hid hb1
  clear ho hA hb1
  go_wp2_with fail
  go_loop [4] (fun i => ∃ k : Nat, k ≤ l.length ∧ i = .int .i64 k ∧ Hid (okN (k == 0) (l.drop k) = okN true l)) (fun i => l.length - (intOf i).toNat)
  case atStart => exact ⟨0, by omega, rfl, Lib.hid rfl⟩
  case round =>
    obtain ⟨k, hk, rfl, hr⟩ := hrel
    by_cases hlt : k < l.length
    · obtain ⟨b, off, r, m, rfl, hx, c0, c1, c2⟩ := rfR_at HA.out hlt
      have hr2 := hr.out
      rw [drop_at hx] at hr2
      have HR := Lib.hid hr2
      clear hr hr2 hx c1
      have KL := fun W => RefLetter_calls (r : Int) W
      cases hbad : badR (r, m) with
      | true =>
        rw [hbad] at c2
        have HF := Lib.hid (show nameR l = false by unfold nameR; rw [← HR.out, okN_bad hbad]; rfl)
        clear hbad
        go_wp2_with fail
        go_ret
        exact ⟨ret_bool (by rw [HF.out]), HB1.out⟩
      | false =>
        rw [hbad] at c2
        cases hlet : letB (r : Int) with
        | true =>
          rw [hlet] at KL
          have HQ := Lib.hid (HR.out.symm.trans (okN_let hbad hlet))
          clear hbad hlet
          go_wp2_with (go_at_call 36; refine (KL _).mono ?_; rintro e w4 ⟨rfl, rfl⟩)
          all_goals
            go_round
            case rel => exact ⟨k + 1, by omega, by go_num, Lib.hid (by rw [HQ.out, show (k + 1 == 0) = false by simp])⟩
            case measure => simp [intOf]; omega
        | false =>
          rw [hlet] at KL
          by_cases hdig : ¬ k = 0 ∧ (48 : Int) ≤ (r : Int) ∧ (r : Int) ≤ 57
          · obtain ⟨d0, d1, d2⟩ := hdig
            have d3 : ((k : Int) == 0) = false := by simp; omega
            have HQ : Hid (okN true l = okN false (l.drop (k + 1))) := Lib.hid (by
              have e0 := HR.out
              rw [show (k == 0) = false by simp; omega] at e0
              exact e0.symm.trans (okN_dig hbad (decide_eq_true ⟨d1, d2⟩)))
            clear hbad hlet
            go_wp2_with (go_at_call 36; refine (KL _).mono ?_; rintro e w4 ⟨rfl, rfl⟩)
            all_goals
              go_round
              case rel => exact ⟨k + 1, by omega, by go_num, Lib.hid (by rw [HQ.out, show (k + 1 == 0) = false by simp])⟩
              case measure => simp [intOf]; omega
          · have HF := Lib.hid (show nameR l = false by
              unfold nameR
              rw [← HR.out, okN_no hlet]
              · rfl
              · by_cases h0 : k = 0
                · exact .inl (by simp [h0])
                · exact .inr (decide_eq_false (fun h => hdig ⟨h0, h.1, h.2⟩)))
            clear hbad hlet
            by_cases d0 : k = 0
            · have d3 : ((k : Int) == 0) = true := by simp [d0]
              clear hdig d0
              go_wp2_with (go_at_call 36; refine (KL _).mono ?_; rintro e w4 ⟨rfl, rfl⟩)
              all_goals go_ret
              all_goals exact ⟨ret_bool (by rw [HF.out]), HB1.out⟩
            · have d3 : ((k : Int) == 0) = false := by simp; omega
              by_cases d1 : (r : Int) < 48
              · clear hdig d0
                go_wp2_with (go_at_call 36; refine (KL _).mono ?_; rintro e w4 ⟨rfl, rfl⟩)
                all_goals go_ret
                all_goals exact ⟨ret_bool (by rw [HF.out]), HB1.out⟩
              · have d2 : (57 : Int) < (r : Int) := by
                  rcases Int.lt_or_le 57 (r : Int) with h | h
                  · exact h
                  · exact absurd ⟨d0, by omega, h⟩ hdig
                clear hdig d0
                go_wp2_with (go_at_call 36; refine (KL _).mono ?_; rintro e w4 ⟨rfl, rfl⟩)
                all_goals go_ret
                all_goals exact ⟨ret_bool (by rw [HF.out]), HB1.out⟩
    · have hkn : k = l.length := by omega
      have he : l.drop k = [] := List.drop_eq_nil_of_le (by omega)
      have hr2 := hr.out
      rw [he] at hr2
      have HF := Lib.hid (show nameR l = decide (1 ≤ l.length ∧ l.length ≤ 8) by
        unfold nameR
        rw [← hr2]
        rfl)
      clear he hr2 hr hkn
      go_wp2_with fail
      all_goals go_ret
      all_goals exact ⟨ret_bool (by rw [HF.out, Bool.eq_iff_iff]; simp; omega), HB1.out⟩
/-- Has a text no wrong rune? -/
def wholeR (l : List (Nat × Nat)) : Bool := l.all fun x => !badR x
end Go.Proofs.YtmdnmiiggkfnfaaDoor

/- Contract: the document's Words. -/
set_option linter.unusedVariables false
set_option linter.unusedSimpArgs false
namespace Go.Proofs.YtmdnmiiggkfnfaaDoor
open Go.RowKit

def frV : Option Nat → Int
  | none => -1
  | some f => f
/-- The document's state, as the program's. -/
def stOf (s : ByteArray) (out : List Wd) (fr : Option Nat) (start at_ i : Nat) : St :=
  match fr with
  | none => ⟨out, i, false⟩
  | some f => ⟨out ++ [((s.extract start at_, (f : Int)) : Wd)], i, true⟩
theorem byt_ext (s : ByteArray) (a b : Nat) : byt (s.extract a b) = ((byt s).drop a).take (b - a) := by
  unfold byt
  rw [ByteArray.data_extract, Array.toList_extract]
  simp only [List.extract_eq_take_drop, List.map_take, List.map_drop]
/-- A rune that is read, written again. -/
theorem enc_ext {s : ByteArray} {p r m : Nat} (hp : p < s.size) (hd : decL ((byt s).drop p) = (r, m)) (hb : badR (r, m) = false) : Utf8.encode (r : Int) = s.extract p (p + m) := by
  have hne : (byt s).drop p ≠ [] := fun e => by
    have := congrArg List.length e
    rw [List.length_drop, byt_len] at this
    simp at this
    omega
  have hlt : ∀ x ∈ (byt s).drop p, x < 256 := fun x hx => byt_lt s x (List.mem_of_mem_drop hx)
  obtain ⟨h1, h2⟩ := enc_dec hne hlt (by rw [hd]; exact hb)
  rw [hd] at h1 h2
  apply byt_inj
  rw [byt_ext, Nat.add_sub_cancel_left, ← h2]
  exact byt_encode (r : Int) (by omega) (by simpa using h1)
theorem extract_more (s : ByteArray) (a b c : Nat) (h1 : a ≤ b) (h2 : b ≤ c) : s.extract a b ++ s.extract b c = s.extract a c := by
  apply byt_inj
  have e : ∀ x y : ByteArray, byt (x ++ y) = byt x ++ byt y := by
    intro x y
    unfold byt
    rw [ByteArray.data_append, Array.toList_append, List.map_append]
  rw [e, byt_ext, byt_ext, byt_ext]
  have h3 : c - a = (b - a) + (c - b) := by omega
  rw [h3, List.take_add, List.drop_drop, show a + (b - a) = b by omega]
def RefWordsPost (w : World) (l : List Nat) (e : Ending) (w' : World) : Prop := WordsPost w l e w'
theorem step_blank_none {s : ByteArray} {out : List Wd} {start a a' i : Nat} {x : Nat × Nat} (hb : blankR x = true) : stepW (stOf s out none start a i) x = stOf s out none start a' (i + 1) := by
  unfold stepW stOf
  rw [hb]
  rfl
theorem step_blank_some {s : ByteArray} {out : List Wd} {f start a a' i : Nat} {x : Nat × Nat} (hb : blankR x = true) : stepW (stOf s out (some f) start a i) x = stOf s (out ++ [((s.extract start a, (f : Int)) : Wd)]) none start a' (i + 1) := by
  unfold stepW stOf
  rw [hb]
  rfl
theorem step_word_none {s : ByteArray} {out : List Wd} {start a i r m : Nat} (ha : a < s.size) (hd : decL ((byt s).drop a) = (r, m)) (hw : badR (r, m) = false) (hb : blankR (r, m) = false) : stepW (stOf s out none start a i) (r, m) = stOf s out (some i) a (a + m) (i + 1) := by
  unfold stepW stOf
  rw [hb]
  dsimp only
  rw [enc_ext ha hd hw]
  rfl
theorem step_word_some {s : ByteArray} {out : List Wd} {f start a i r m : Nat} (hs : start ≤ a) (ha : a < s.size) (hd : decL ((byt s).drop a) = (r, m)) (hw : badR (r, m) = false) (hb : blankR (r, m) = false) : stepW (stOf s out (some f) start a i) (r, m) = stOf s out (some f) start (a + m) (i + 1) := by
  unfold stepW stOf
  rw [hb]
  dsimp only
  rw [enc_ext ha hd hw]
  show St.mk (extLast _ _) _ _ = _
  rw [extLast_snoc]
  dsimp only
  rw [extract_more s start a (a + m) hs (by omega)]
theorem stOf_n (s : ByteArray) (out : List Wd) (fr : Option Nat) (start a i : Nat) : (stOf s out fr start a i).n = i := by cases fr <;> rfl
/-- What a round of the document's Words keeps. -/
structure Rnw (w1 wr : World) (s : ByteArray) (l : List (Nat × Nat)) (v : Value) (out : List Wd) (fr : Option Nat) (start a i : Nat) : Prop where
  bel : Below w1.heap.size w1 wr
  own : Ow flW wr w1.heap.size 97 v out
  eq : goW (stOf s out fr start a i) (l.drop i) = wordsL (byt s)
  rest : rn ((byt s).drop a) = l.drop i
end Go.Proofs.YtmdnmiiggkfnfaaDoor
