/- Contract: Words, the program's. -/
import Derived.Test.YtmdnmiiggkfnfaaDoorGlWd
set_option linter.unusedVariables false
set_option linter.unusedSimpArgs false
namespace Go.Proofs.YtmdnmiiggkfnfaaDoor
open Go.RowKit

theorem info_w : (Tryd.prog.info? 97).map (fun i => (i.zero, i.size, i.bytes)) = some (some (.agg #[.string .empty, .int .i64 0]), 2, 24) := by kernel_rfl
def WordsPost (w : World) (l : List Nat) (e : Ending) (w' : World) : Prop :=
  ∃ v, e = .returned (.tuple #[v, .int .i64 (wordsL l).2]) ∧ Ow flW w' w.heap.size 97 v (wordsL l).1 ∧ Below w.heap.size w w'
theorem box_w (W : World) (t : ByteArray) (n : Int) : Reads (W.alloc (.cells #[.string t, .int .i64 n] 97)) (W.heap.size + 1) 2 (some ⟨W.heap.size, 0, none⟩) 1 (flW.enc ((t, n) : Wd)) := box_reads flW W _ _ ((t, n) : Wd) rfl
theorem encode_le (r : Int) : (Utf8.encode r).size ≤ 4 := by
  unfold Utf8.encode
  simp only
  repeat' split
  all_goals simp [ByteArray.size]
theorem blank_cases (r n : Nat) : blankR (r, n) = true ∧ (((r : Int) == 32) = true ∨ (((r : Int) == 32) = false ∧ ((r : Int) == 9) = true)) ∨ blankR (r, n) = false ∧ ((r : Int) == 32) = false ∧ ((r : Int) == 9) = false := by
  unfold blankR
  by_cases h1 : r = 32
  · subst h1; simp
  · by_cases h2 : r = 9
    · subst h2; simp
    · right
      simp
      omega
/-- What a round keeps. -/
structure Rnd (w wr : World) (s : ByteArray) (pos : Nat) (v : Value) (st : St) : Prop where
  it : wr.heap[w.heap.size]? = some (.stringIter s pos)
  bel : Below w.heap.size w wr
  own : Ow flW wr (w.heap.size + 1) 97 v st.acc
  eq : goW st (rn ((byt s).drop pos)) = wordsL (byt s)
  win : st.win = true → st.acc ≠ []
  len : st.acc.length ≤ st.n
  np : st.n ≤ pos
  sz : ∀ x ∈ st.acc, x.1.size ≤ 4 * pos
section
variable {w w2 w3 : World} {s : ByteArray} {pos n : Nat} {v : Value} {st : St}
theorem Rnd.meas {p : Nat} {wr : World} (h : w2.heap[w.heap.size]? = some (.stringIter s p)) (h0 : wr.heap[w.heap.size]? = some (.stringIter s pos)) (hp : pos < s.size) (hlt : pos < p) : s.size - w2.iterPos w.heap.size < s.size - wr.iterPos w.heap.size := by
  unfold World.iterPos
  rw [h, h0]
  dsimp only
  omega
end
theorem put_keep {w w2 w3 w4 : World} {B g : Nat} {ob : Obj} (hb3 : Below w2.heap.size w2 w3) (hg : w3.grownBy w4 (some g)) (hrow : B + 1 ≤ g) (hlt : B < w2.heap.size) (h : w2.heap[B]? = some ob) (hb : Below B w w2) :
    w4.heap[B]? = some ob ∧ Below B w w4 := by
  have h3 := hb3.size
  refine ⟨(hg.block B (by omega) (fun e => by injection e with e; omega)).trans ((hb3.block B hlt).trans h), ?_⟩
  have h1 : Below B w w3 := hb.trans (hb3.mono (by omega))
  exact h1.grown hg (by omega) (fun k hk => by injection hk with hk; omega)
theorem last_cell {w : World} {base : Nat} {e : TypeId} {g cap : Nat} {p : List Wd} {x : Wd} (h : Ow flW w base e (.slice (some ⟨g, 0, none⟩) (p.length + 1) cap) (p ++ [x])) :
    w.cell? ⟨g, p.length * 2, none⟩ = some (.string x.1) ∧ w.frozen? ⟨g, p.length * 2, none⟩ = false := by
  have hl : (p ++ [x]).length = p.length + 1 := by simp
  have h' : Ow flW w base e (.slice (some ⟨g, 0, none⟩) (p ++ [x]).length cap) (p ++ [x]) := by rw [hl]; exact h
  exact ⟨h'.cell1 (j := p.length) (i := 0) (x := x) (by simp) (by decide) rfl, h'.free _⟩
theorem app_keep {w w2 w3 w4 : World} {B : Nat} {o ob : Obj} {row : Option Nat} (hb3 : Below w2.heap.size w2 w3) (hg : (w3.alloc o).grownBy w4 row) (hrow : ∀ k, row = some k → B + 1 ≤ k) (hlt : B < w2.heap.size) (h : w2.heap[B]? = some ob) (hb : Below B w w2) :
    w4.heap[B]? = some ob ∧ Below B w w4 := by
  have h3 := hb3.size
  refine ⟨(hg.block B (by simp; omega) (fun e => by have := hrow B e.symm; omega)).trans ((Below.heap_alloc w3 o B (by omega)).trans ((hb3.block B hlt).trans h)), ?_⟩
  have h1 : Below B w (w3.alloc o) := (hb.trans (hb3.mono (by omega))).alloc (by omega) o
  exact h1.grown hg (by simp; omega) (fun k hk => by have := hrow k hk; omega)
theorem ext_size {acc : List Wd} {n p q : Nat} {N : Int} {t : ByteArray} (ht : t.size ≤ 4) (h : ∀ y ∈ acc, y.1.size ≤ 4 * p) (hpq : p + n ≤ q) (h1 : 1 ≤ n) : ∀ y ∈ acc ++ [((t, N) : Wd)], y.1.size ≤ 4 * q := by
  intro y hy
  rcases List.mem_append.1 hy with h' | h'
  · have := h y h'; omega
  · rw [List.mem_singleton.1 h']
    show t.size ≤ _
    omega
theorem last_size {acc : List Wd} {n p q : Nat} {N : Int} {t u : ByteArray} (ht : t.size ≤ 4) (h : ∀ y ∈ acc ++ [((u, N) : Wd)], y.1.size ≤ 4 * p) (hpq : p + n ≤ q) (h1 : 1 ≤ n) : ∀ y ∈ acc ++ [((u ++ t, N) : Wd)], y.1.size ≤ 4 * q := by
  intro y hy
  rcases List.mem_append.1 hy with h' | h'
  · have := h y (List.mem_append_left _ h'); omega
  · rw [List.mem_singleton.1 h']
    have hu := h (u, N) (by simp)
    show (u ++ t).size ≤ _
    rw [ByteArray.size_append]
    dsimp only at hu
    omega
set_option maxRecDepth 100000 in
set_option maxRecDepth 20000 in
set_option maxHeartbeats 4000000 in
theorem Words_calls (w : World) (hT : Tabs w) (s : ByteArray) (hs : s.size ≤ 1000000) :
    Calls Tryd.prog 46 #[.string s] w (WordsPost w (byt s)) := by
  obtain ⟨i0, hi0, hz0, hz1, hz2⟩ := info_parts info_w
  have HL := Lib.hid (byt_len s)
  have HT := Lib.hid hT
  clear hT
  go_enter Tryd.func46, Tryd.ntmps46
  go_wp2_with fail
  go_loopw [4, 5, 6] (fun l n win wr => ∃ (pos : Nat) (st : St), n = .int .i64 st.n ∧ win = .bool st.win ∧ Hid (Rnd w wr s pos l st) ∧ pos ≤ s.size) (fun _ _ _ wr => s.size - wr.iterPos w.heap.size)
  case atStart => exact ⟨0, ⟨[], 0, false⟩, rfl, rfl, Lib.hid ⟨World.iter_heap w s 0, below_iter (Nat.le_refl _) _ _, Ow.nil_ _ _ _ _, by simp [wordsL], by simp, by simp, by simp, by simp⟩, by omega⟩
  case round =>
    obtain ⟨pos, ⟨acc, nn, win⟩, rfl, rfl, hR, hp0⟩ := hrel
    by_cases hp : pos < s.size
    · have hne : (byt s).drop pos ≠ [] := fun e => by
        have := congrArg List.length e
        rw [List.length_drop, HL.out] at this
        simp at this
        omega
      have hnx : ∀ ty, (Instr.next (.pointer (some ⟨w.heap.size, 0, none⟩)) true ty).run Tryd.prog wr = _ := fun ty => Lib.run_next_any_at wr w.heap.size s pos ty hR.out.it hp
      simp only [decL_at] at hnx
      have hwd := dec_width hne
      have hk : pos + (decL ((byt s).drop pos)).2 ≤ s.size := by
        have := hwd.2.1
        rw [List.length_drop, HL.out] at this
        omega
      have hit2 := Lib.hid (Lib.iterAt_heap wr w.heap.size s pos (pos + (decL ((byt s).drop pos)).2) hR.out.it)
      have hbw2 := Lib.hid (Lib.below_iterAt hR.out.bel (k := w.heap.size) (Nat.le_refl _) s (pos + (decL ((byt s).drop pos)).2))
      have how2 := Lib.hid (hR.out.own.iterAt (k := w.heap.size) (by omega) s (pos + (decL ((byt s).drop pos)).2))
      have hlt2 : w.heap.size < (wr.iterAt w.heap.size s (pos + (decL ((byt s).drop pos)).2)).heap.size := (Array.getElem?_eq_some_iff.1 hit2.out).1
      have K := isWrong_calls _ (HT.out.stay hbw2.out) s (by omega) pos hp
      have hc2 := hR.out.eq
      rw [rn_cons hne, List.drop_drop] at hc2
      have HC := Lib.hid hc2
      have h1 := hwd.1
      clear hne hwd hc2
      generalize wr.iterAt w.heap.size s (pos + (decL ((byt s).drop pos)).2) = w2 at *
      generalize decL ((byt s).drop pos) = x at *
      obtain ⟨r, n⟩ := x
      dsimp only at hnx hk h1 HC K hit2
      have HN := Lib.hid (show acc.length ≤ nn ∧ nn ≤ pos from ⟨hR.out.len, hR.out.np⟩)
      have hnn : nn ≤ pos := hR.out.np
      have hal : acc.length ≤ nn := hR.out.len
      cases hbad : badR (r, n) with
      | true =>
        rw [hbad] at K
        have HF := Lib.hid (show wordsL (byt s) = ([], (nn : Int)) by
          rw [← HC.out, goW_bad hbad])
        clear hbad
        go_wp2_with (go_at_call 55; refine K.mono ?_; rintro e w3 ⟨rfl, hb3⟩)
        go_ret2
        exact ⟨.slice none 0 0, by rw [HF.out]; exact rfl, by rw [HF.out]; exact Ow.nil_ _ _ _ _, hbw2.out.trans (hb3.mono (by omega))⟩
      | false =>
        rw [hbad] at K
        have HQ := Lib.hid (HC.out.symm.trans (goW_ok hbad))
        clear hbad
        rcases blank_cases r n with ⟨hbl, hb⟩ | ⟨hbl, b1, b2⟩
        · have HE := Lib.hid (show stepW ⟨acc, nn, win⟩ (r, n) = ⟨acc, nn + 1, false⟩ by unfold stepW; rw [hbl]; rfl)
          clear hbl
          rcases hb with b1 | ⟨b1, b2⟩
          all_goals
            go_wp2_with (go_at_call 55; refine K.mono ?_; rintro e w3 ⟨rfl, hb3⟩)
            go_roundw
            case rel =>
              exact ⟨pos + n, ⟨acc, nn + 1, false⟩, by go_num, rfl, Lib.hid ⟨(hb3.block w.heap.size hlt2).trans hit2.out, hbw2.out.trans (hb3.mono (by omega)), how2.out.stay hb3, by rw [← HE.out]; exact HQ.out.symm, by simp, by have := HN.out; dsimp only; omega, by have := HN.out; dsimp only; omega, fun y hy => by have := hR.out.sz y hy; omega⟩, hk⟩
            case measure => exact Rnd.meas ((hb3.block w.heap.size hlt2).trans hit2.out) hR.out.it hp (by omega)
        · cases win with
          | false =>
            have HE := Lib.hid (show stepW ⟨acc, nn, false⟩ (r, n) = ⟨acc ++ [((Utf8.encode (r : Int), (nn : Int)) : Wd)], nn + 1, true⟩ by unfold stepW; rw [hbl]; rfl)
            have HBX := Lib.hid (fun W => box_w W (Utf8.encode (r : Int)) (nn : Int))
            clear hbl
            go_wp2_with (first
              | (go_at_call 55; refine K.mono ?_; rintro e w3 ⟨rfl, hb3⟩; have HB3 := Lib.hid hb3; clear hb3)
              | (at_builtin; refine wpList_append_any _ rfl (.tmp 33) (.tmp 38) _ rfl (w.heap.size + 1) 97 i0 _ 2 24 Tryd.underlying78 hi0 hz0 hz1 hz2 rfl (by omega) _ acc.length (acc.flatMap flW.enc) rfl ((how2.out.stay HB3.out).alloc _) _ (some ⟨w3.heap.size, 0, none⟩) 1 1 (flW.enc ((Utf8.encode (r : Int), (nn : Int)) : Wd)) rfl (HBX.out w3) (flW.one _) (by simp only [maxLen]; omega) (by omega) (by have := HB3.out.size; simp; omega) ?_; intro v4 w4 hown4 hg4 hat4; have HO4 := Lib.hid hown4; have HG4 := Lib.hid hg4; clear hown4 hg4 hat4))
            go_roundw
            case rel =>
              have hk4 := app_keep HB3.out HG4.out (fun k hk => how2.out.base_ k hk) hlt2 hit2.out hbw2.out
              exact ⟨pos + n, ⟨acc ++ [((Utf8.encode (r : Int), (nn : Int)) : Wd)], nn + 1, true⟩, by go_num, rfl, Lib.hid ⟨hk4.1, hk4.2, Ow.snoc HO4.out, by rw [← HE.out]; exact HQ.out.symm, by simp, by have := HN.out; simp; omega, by dsimp only; omega, ext_size (encode_le _) hR.out.sz (Nat.le_refl _) h1⟩, hk⟩
            case measure =>
              have hk4 := app_keep HB3.out HG4.out (fun k hk => how2.out.base_ k hk) hlt2 hit2.out hbw2.out
              exact Rnd.meas hk4.1 hR.out.it hp (by omega)
          | true =>
            obtain ⟨p, ⟨t, a⟩, rfl⟩ : ∃ p x, acc = p ++ [x] := ⟨_, _, (List.dropLast_concat_getLast (hR.out.win rfl)).symm⟩
            have HE := Lib.hid (show stepW ⟨p ++ [(t, a)], nn, true⟩ (r, n) = ⟨p ++ [((t ++ Utf8.encode (r : Int), a) : Wd)], nn + 1, true⟩ by unfold stepW; rw [hbl]; show St.mk (extLast _ _) _ _ = _; rw [extLast_snoc])
            have hts : t.size ≤ 4 * pos := hR.out.sz (t, a) (by simp)
            have hz1 : (t.size : Int) ≤ 8388608 := by omega
            have hz2 : ((Utf8.encode (r : Int)).size : Int) ≤ 8388608 := by have := encode_le (r : Int); omega
            obtain ⟨g, cap, hv, hg1, hg2⟩ := how2.out.form (by simp)
            rw [List.length_append, List.length_singleton] at hv hal
            subst hv
            clear hbl hts
            go_wp2_with (go_at_call 55; refine K.mono ?_; rintro e w3 ⟨rfl, hb3⟩; have HO3 := Lib.hid (show Ow flW w3 (w.heap.size + 1) 97 (.slice (some ⟨g, 0, none⟩) (p.length + 1) cap) (p ++ [((t, a) : Wd)]) from how2.out.stay hb3); obtain ⟨c0, f0⟩ := last_cell HO3.out; have hs3 := hb3.size; have HB3 := Lib.hid hb3; clear hb3)
            go_roundw
            case rel =>
              obtain ⟨o1, o2⟩ := Ow.putLast HO3.out (t ++ Utf8.encode (r : Int))
              have hk4 := put_keep HB3.out o2 hg1 hlt2 hit2.out hbw2.out
              exact ⟨pos + n, ⟨p ++ [((t ++ Utf8.encode (r : Int), a) : Wd)], nn + 1, true⟩, by go_num, rfl, Lib.hid ⟨hk4.1, hk4.2, o1, by rw [← HE.out]; exact HQ.out.symm, by simp, by simp; omega, by dsimp only; omega, last_size (encode_le _) hR.out.sz (Nat.le_refl _) h1⟩, hk⟩
            case measure =>
              obtain ⟨o1, o2⟩ := Ow.putLast HO3.out (t ++ Utf8.encode (r : Int))
              have hk4 := put_keep HB3.out o2 hg1 hlt2 hit2.out hbw2.out
              exact Rnd.meas hk4.1 hR.out.it hp (by omega)
    · have hnx : ∀ ty, (Instr.next (.pointer (some ⟨w.heap.size, 0, none⟩)) true ty).run Tryd.prog wr = _ := fun ty => Lib.run_next_end_at wr w.heap.size s pos ty hR.out.it hp
      have he : (byt s).drop pos = [] := List.drop_eq_nil_of_le (by rw [HL.out]; omega)
      have hc2 := hR.out.eq
      rw [he, rn_nil] at hc2
      have HF := Lib.hid (show wordsL (byt s) = (acc, -1) from hc2.symm)
      clear he hc2
      go_wp2_with fail
      go_ret2
      exact ⟨_, by rw [HF.out]; exact rfl, by rw [HF.out]; exact hR.out.own.lower (by omega), hR.out.bel⟩
end Go.Proofs.YtmdnmiiggkfnfaaDoor
